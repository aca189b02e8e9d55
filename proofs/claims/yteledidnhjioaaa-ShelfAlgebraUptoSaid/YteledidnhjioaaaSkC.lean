import Derived.Test.YteledidnhjioaaaSkB
import Derived.Deep.RegionHeld3
import Derived.Deep.QuietTactic
import Derived.BigQuiet
namespace Go.Proofs.Yteledidnhjioaaa.Sh
open Go.RowKit Go.Lib Go.Proofs Go.Shelf
set_option linter.unusedVariables false
set_option linter.unusedSimpArgs false
attribute [local go_sem] Oper.semAt_some
/-- what the variable of the least side holds behind k sides -/
def LeastAt (Ds : List Nat) (qs : List (List (Int × Int))) (k : Nat) (v : Value) : Prop :=
  (v = .pointer none ∧ leastH (qs.take k) none = none) ∨ ∃ (j D : Nat) (x : Int × Int) (r : List (Int × Int)), Ds[j]? = some D ∧ qs[j]? = some (x :: r) ∧ v = ptrV D ∧ leastH (qs.take k) none = some x
theorem len_flat {q : List (Int × Int)} : ∀ ls : List (List (Int × Int)), q ∈ ls → q.length ≤ ls.flatten.length
  | p :: ls, h => by
    rw [List.flatten_cons, List.length_append]
    rcases List.mem_cons.1 h with rfl | h
    · omega
    · have := len_flat ls h; omega
/-- the first k turned, the rest as they were -/
abbrev mixed (g : List (Int × Int) → List (Int × Int)) (qs : List (List (Int × Int))) (k : Nat) : List (List (Int × Int)) := (qs.take k).map g ++ qs.drop k
theorem mixed_at {g : List (Int × Int) → List (Int × Int)} {qs : List (List (Int × Int))} {k : Nat} {q : List (Int × Int)} (h : qs[k]? = some q) : (mixed g qs k)[k]? = some q := by
  have hk := (List.getElem?_eq_some_iff.1 h).1
  have e : ((qs.take k).map g).length = k := by simp; omega
  rw [List.getElem?_append_right (by omega), e, Nat.sub_self, List.getElem?_drop, Nat.add_zero, h]
theorem mixed_next {g : List (Int × Int) → List (Int × Int)} {qs : List (List (Int × Int))} {k : Nat} {q : List (Int × Int)} (h : qs[k]? = some q) : mixed g qs (k + 1) = (mixed g qs k).set k (g q) := by
  have hk := (List.getElem?_eq_some_iff.1 h).1
  have e : ((qs.take k).map g).length = k := by simp; omega
  unfold mixed
  have e2 : qs.drop k = q :: qs.drop (k + 1) := by rw [List.drop_eq_getElem_cons hk, (List.getElem?_eq_some_iff.1 h).2]
  rw [List.set_append_right _ _ (by omega), e, Nat.sub_self, List.take_add_one, h, e2]
  simp
theorem mixed_same {g : List (Int × Int) → List (Int × Int)} {qs : List (List (Int × Int))} {k : Nat} {q : List (Int × Int)} (h : qs[k]? = some q) (hg : g q = q) : mixed g qs (k + 1) = mixed g qs k := by
  have hk := (List.getElem?_eq_some_iff.1 h).1
  unfold mixed
  rw [List.take_add_one, h, List.drop_eq_getElem_cons hk, (List.getElem?_eq_some_iff.1 h).2]
  simp [hg]
set_option maxRecDepth 100000 in
set_option maxHeartbeats 20000000 in
theorem merge_any {c l BC BY lo0 lo hi n cap N : Nat} {f : (Int × Int) → (Int × Int) → Int} {A : Option Addr} {X : Nat → Prop} {J Jx : List (Int × Int) → World → Prop} {xs : List (Int × Int)} {V : World} {Ds : List Nat} {qs : List (List (Int × Int))}
    (hc : Comp c f) (hf : ∀ a b, (f a b < 0 ↔ a.1 < b.1) ∧ (f a b = 0 ↔ a.1 = b.1)) (bC : Boxed V BC 54 (.func (.func c) #[] #[])) (bY : Boxed V BY 45 (.func (.yield l) #[] #[])) (xC : ¬ X BC) (hC : BC < lo0) (hBY : lo0 ≤ BY ∧ BY < lo) (hlo : lo ≤ hi) (hhi : hi ≤ V.heap.size)
    (hn : Ds.length = n) (hS : SidesB lo hi (Value.slice A n cap).ownBlock V Ds qs) (hown : V.ownsRow lo 113 1 (.slice A n cap) n (Ds.map ptrV)) (hob : ∀ b, (Value.slice A n cap).ownBlock = some b → b < hi)
    (hJ : AbidesFrom lo0 J) (hJz : ∀ s A B, J s A → Chg (priv lo0 hi) A B → J s B)
    (hY : ∀ m pre x W1, J pre W1 → pre.length < xs.length → YieldAt FW m Try.prog l (encP x) W1 fun e V => (e = .returned (.bool true) ∧ J (pre ++ [x]) V ∧ Chg (fun b => X b ∧ ¬ priv lo0 hi b) W1 V) ∨ (e = .returned (.bool false) ∧ Jx (pre ++ [x]) V ∧ Chg (fun b => X b ∧ ¬ priv lo0 hi b) W1 V))
    (h0 : J [] V) (hN : qs.flatten.length ≤ N) (hxs : xs = mergeN N qs) (hz : n ≤ 1000) (hz2 : qs.flatten.length ≤ 4611686018427387904) :
    Calls Try.prog 80 #[.slice A n cap, .pointer (some ⟨BC, 0, none⟩), .pointer (some ⟨BY, 0, none⟩)] V fun e U => (∃ v, e = .returned v) ∧ (J xs U ∨ ∃ pre, pre <+: xs ∧ Jx pre U) ∧ Chg (fun b => b ∈ Ds ∨ (X b ∧ ¬ priv lo0 hi b)) V U := by
  replace hf := hid hf
  have hen := hc.enters
  have hcc := hc.calls
  go_enter Try.func80, Try.ntmps80
  go_wp2_with fail
  go_loopg [4] (N + 1) (fun k p wr => ∃ (pre : List (Int × Int)) (qs' : List (List (Int × Int))), J pre wr ∧ Hid (xs = pre ++ mergeN (k - 1) qs') ∧ 0 < k ∧ Hid (qs'.flatten.length ≤ k - 1 ∧ qs'.flatten.length ≤ 4611686018427387904) ∧ SidesB lo hi (Value.slice A n cap).ownBlock wr Ds qs' ∧ wr.ownsRow lo 113 1 (.slice A n cap) n (Ds.map ptrV) ∧ Chg (fun b => b ∈ Ds ∨ (X b ∧ ¬ priv lo0 hi b)) V wr)
  case atStart => exact ⟨[], qs, h0, hid hxs, Nat.succ_pos _, hid ⟨hN, hz2⟩, hS, hown, Chg.refl _ _⟩
  case round =>
    obtain ⟨pre, qs', hj, hx, hk, hl, hS', hown', hch⟩ := hrel
    rename World => W1
    have bC' : Boxed W1 BC 54 (.func (.func c) #[] #[]) := boxed_turn bC hch (fun h => h.elim (fun h => by have := (hS'.ge _ h).1; omega) (fun h => xC h.1))
    have bY' : Boxed W1 BY 45 (.func (.yield l) #[] #[]) := boxed_turn bY hch (fun h => h.elim (fun h => by have := (hS'.ge _ h).1; omega) (fun h => h.2 ⟨hBY.1, by omega⟩))
    go_wp2_with fail
    go_loopw [4, 12] (fun p i w1 => ∃ k : Nat, k ≤ n ∧ i = .int .i64 k ∧ LeastAt Ds qs' k p ∧ Later W1 w1) (fun _ i _ => n - (intOf i).toNat)
    case atStart => exact ⟨0, Nat.zero_le _, rfl, .inl ⟨rfl, rfl⟩, Later.refl _⟩
    case round =>
      rename World => w1
      obtain ⟨k, hk1, rfl, hp, hw1⟩ := hrel
      have hSw : SidesB lo hi (Value.slice A n cap).ownBlock w1 Ds qs' := hS'.chg (hw1.chg (X := fun _ => False)) (fun _ _ _ _ h => h)
      have hbr := Later.refl w1
      by_cases hlt : k < n
      · obtain ⟨D, hD⟩ : ∃ D, Ds[k]? = some D := ⟨_, List.getElem?_eq_getElem (by omega)⟩
        obtain ⟨q, hq⟩ : ∃ q, qs'[k]? = some q := ⟨_, List.getElem?_eq_getElem (by rw [← hS'.len]; omega)⟩
        obtain ⟨g, rfl, hg⟩ := ptr_row hown' hD hn
        have hg1 := hw1.cell hg
        have hsd : ∀ W', Later w1 W' → SideQ (fun _ => True) W' D q := fun W' h => ((hSw.at_ k D q hD hq).chg (h.chg (X := fun _ => False)) (fun h => h) (fun _ _ h => h)).more' (fun _ _ _ => trivial)
        have hst := least_take hq
        have hbC : ∀ W', Later w1 W' → W'.cell? ⟨BC, 0, none⟩ = some (.func (.func c) #[] #[]) := fun W' h => h.cell (hw1.cell bC'.cell)
        clear hJ hJz hY hx hl hj hown hown' hS hS' hxs h0 hch
        have hG0 := Later.drew (Later.refl w1)
        obtain ⟨Good, hGd⟩ : ∃ G : World → Prop, ∀ W', G W' ↔ Later w1 W' := ⟨_, fun _ => Iff.rfl⟩
        replace hG0 := (hGd _).2 hG0
        have hne : Nonempty (InG Good) := ⟨⟨_, hG0⟩⟩
        have hcq : ∀ (a b : Int × Int) (p : InG Good), Calls Try.prog c #[.agg #[.int .i64 a.1, .int .i64 a.2], .agg #[.int .i64 b.1, .int .i64 b.2]] p.W fun e w'' => e = .returned (.int .i64 (f a b)) ∧ ∃ p' : InG Good, w'' = p'.W := fun a b p => (hcc a b p.W).mono fun e w'' hh => ⟨hh.1, ⟨w'', (hGd _).2 (((hGd _).1 p.h).next hh.2)⟩, rfl⟩
        have gC : ∀ p : InG Good, p.W.cell? ⟨BC, 0, none⟩ = some (.func (.func c) #[] #[]) := fun p => hbC _ ((hGd _).1 p.h)
        cases q with
        | nil =>
          have g0 : ∀ p : InG Good, p.W.cell? ⟨D, 3, none⟩ = some (.bool false) := fun p => (hsd _ ((hGd _).1 p.h)).ok
          replace hGd := hid hGd
          clear hsd hbC
          go_wp2_with fail
          refine region_in Good (by kernel_rfl) (by kernel_rfl) hG0 ?_
          repeat (go_big_quiet_step (exact hcq _ _ _))
          refine wpQuiet_nil ?_
          intro w7 hw7
          have l7 := (hGd.out _).1 hw7
          clear hcq hGd hne hG0 hw7 gC g0
          go_wp2_with fail
          go_roundw
          case rel => exact ⟨k + 1, by omega, by go_num, by rcases hp with ⟨rfl, h⟩ | ⟨j, D', x, r, h1, h2, h3, h4⟩; exact .inl ⟨rfl, by rw [hst, h]; rfl⟩; exact .inr ⟨j, D', x, r, h1, h2, h3, by rw [hst, h4]; rfl⟩, hw1.next l7⟩
          case measure => simp [intOf]; omega
        | cons y t =>
          rcases hp with ⟨rfl, hle⟩ | ⟨j, D', x, r, hD', hq', rfl, hle⟩
          · have g0 : ∀ p : InG Good, p.W.cell? ⟨D, 1, none⟩ = some (.int .i64 y.1) ∧ p.W.cell? ⟨D, 2, none⟩ = some (.int .i64 y.2) ∧ p.W.cell? ⟨D, 3, none⟩ = some (.bool true) := fun p => (hsd _ ((hGd _).1 p.h)).head
            replace hGd := hid hGd
            clear hsd hbC
            go_wp2_with fail
            refine region_in Good (by kernel_rfl) (by kernel_rfl) hG0 ?_
            repeat (go_big_quiet_step (exact hcq _ _ _))
            refine wpQuiet_nil ?_
            intro w7 hw7
            have l7 := (hGd.out _).1 hw7
            clear hcq hGd hne hG0 hw7 gC g0
            go_wp2_with fail
            go_roundw
            case rel => exact ⟨k + 1, by omega, by go_num, .inr ⟨k, D, y, t, hD, hq, rfl, by rw [hst, hle]; rfl⟩, hw1.next l7⟩
            case measure => simp [intOf]; omega
          · have g0 : ∀ p : InG Good, p.W.cell? ⟨D, 1, none⟩ = some (.int .i64 y.1) ∧ p.W.cell? ⟨D, 2, none⟩ = some (.int .i64 y.2) ∧ p.W.cell? ⟨D, 3, none⟩ = some (.bool true) ∧ p.W.cell? ⟨D', 1, none⟩ = some (.int .i64 x.1) ∧ p.W.cell? ⟨D', 2, none⟩ = some (.int .i64 x.2) := fun p => by
              have z1 := (hsd _ ((hGd _).1 p.h)).head
              have z2 := ((hSw.at_ j D' _ hD' hq').chg (((hGd _).1 p.h).chg (X := fun _ => False)) (fun h => h) (fun _ _ h => h)).head
              exact ⟨z1.1, z1.2.1, z1.2.2, z2.1, z2.2.1⟩
            replace hGd := hid hGd
            clear hsd hbC
            by_cases hcmp : f y x < 0
            · have hd1 : decide (f y x < 0) = true := by simp [hcmp]
              replace hcmp := hid hcmp
              go_wp2_with fail
              refine region_in Good (by kernel_rfl) (by kernel_rfl) hG0 ?_
              repeat (go_big_quiet_step (exact hcq _ _ _))
              refine wpQuiet_nil ?_
              intro w7 hw7
              have l7 := (hGd.out _).1 hw7
              clear hcq hGd hne hG0 hw7 gC g0
              go_wp2_with fail
              go_roundw
              case rel => exact ⟨k + 1, by omega, by go_num, .inr ⟨k, D, y, t, hD, hq, rfl, by rw [hst, hle]; simp only [stepH]; rw [if_pos ((cmpR_lt _ _).2 ((hf.out _ _).1.1 hcmp.out))]⟩, hw1.next l7⟩
              case measure => simp [intOf]; omega
            · have hd1 : decide (f y x < 0) = false := by simp [hcmp]
              replace hcmp := hid hcmp
              go_wp2_with fail
              refine region_in Good (by kernel_rfl) (by kernel_rfl) hG0 ?_
              repeat (go_big_quiet_step (exact hcq _ _ _))
              refine wpQuiet_nil ?_
              intro w7 hw7
              have l7 := (hGd.out _).1 hw7
              clear hcq hGd hne hG0 hw7 gC g0
              go_wp2_with fail
              go_roundw
              case rel => exact ⟨k + 1, by omega, by go_num, .inr ⟨j, D', x, r, hD', hq', rfl, by rw [hst, hle]; simp only [stepH]; rw [if_neg (fun h => by have h1 := (hf.out _ _).1.2 ((cmpR_lt _ _).1 h); have h2 := hcmp.out; omega)]⟩, hw1.next l7⟩
              case measure => simp [intOf]; omega
      · obtain rfl : n = k := by omega
        have hql : qs'.length = n := by rw [← hS'.len]; exact hn
        unfold LeastAt at hp
        rw [List.take_of_length_le (by omega)] at hp
        have hjw : J pre w1 := hJ _ _ _ none hj hw1.grown (fun r e => by cases e)
        have hchw := hch.trans (hw1.chg (X := fun b => b ∈ Ds ∨ (X b ∧ ¬ priv lo0 hi b)))
        have cC := hw1.cell bC'.cell
        have cY := hw1.cell bY'.cell
        have ownw := own_chg1 hown' (hw1.chg (X := fun _ => False)) (fun _ _ h => h)
        have bCw := boxed_turn bC' (hw1.chg (X := fun _ => False)) (fun h => h)
        have bYw := boxed_turn bY' (hw1.chg (X := fun _ => False)) (fun h => h)
        rcases hp with ⟨rfl, hle⟩ | ⟨j, D, x, r, hD, hq, rfl, hle⟩
        · have hxe : xs = pre := by
            rw [hx.out]
            cases gk - 1 with
            | zero => simp [mergeN]
            | succ m => simp [mergeN, hle]
          have hG0 := Later.drew (Later.refl w1)
          obtain ⟨Good, hGd⟩ : ∃ G : World → Prop, ∀ W', G W' ↔ Later w1 W' := ⟨_, fun _ => Iff.rfl⟩
          replace hG0 := (hGd _).2 hG0
          have hne : Nonempty (InG Good) := ⟨⟨_, hG0⟩⟩
          replace hGd := hid hGd
          replace hxe := hid hxe
          clear hJz hY hx hl hj hown hown' hS hS' hxs h0 hSw ownw bCw bYw hle hql
          go_wp2_with fail
          refine region_in Good (by kernel_rfl) (by kernel_rfl) hG0 ?_
          repeat (go_big_quiet_step (fail))
          refine wpQuiet_nil ?_
          intro w7 hw7
          have l7 := (hGd.out _).1 hw7
          clear hGd hne hG0 hw7
          go_wp2_with fail
          refine bodyPost_ret (v := .tuple #[]) (by simp [results, Try.results80, go_sem]) rfl ?_
          refine ⟨⟨_, rfl⟩, .inl (by rw [hxe.out]; exact hJ _ _ _ none hjw l7.grown (fun r e => by cases e)), hchw.trans l7.chg⟩
        · have hqe := (hSw.at_ j D _ hD hq).head
          obtain ⟨m, hm⟩ : ∃ m, gk - 1 = m + 1 := by
            have := (hl.out).1
            have h2 := drop_less hq
            exact ⟨gk - 1 - 1, by omega⟩
          have hx1 : Hid (xs = pre ++ x :: mergeN m (qs'.map (dropH x))) := hid (by rw [hx.out, hm]; simp [mergeN, hle])
          have hl1 : Hid ((qs'.map (dropH x)).flatten.length ≤ m ∧ qs'.flatten.length ≤ 4611686018427387904) := hid (by have := (hl.out); have h2 := drop_less hq; omega)
          have hlen : pre.length < xs.length := by rw [hx1.out]; simp
          have hjd : J pre w1.drew := hJ _ _ _ none hjw ((Later.refl w1).drew.grown) (fun r e => by cases e)
          have hyy := hY 2 pre x w1.drew hjd hlen
          clear hx hl hj hjw hjd hY
          go_wp2_with fail
          refine region_yield_tail (m := 3) 8 (by kernel_rfl) (by kernel_rfl) ?_
          simp only [List.take_succ_cons, List.take_zero, List.drop_succ_cons, List.drop_zero]
          repeat (refine wpStill_step (fun K hK => ?_); go_simp; generalize hTT : Act.mk _ _ = TT; refine hK TT ?_; subst hTT; clear hK K)
          refine wpStill_nil ?_
          change wpListIn _ _ _ _ _ _ _ w1.drew
          have dch : Chg (fun b => b ∈ Ds ∨ (X b ∧ ¬ priv lo0 hi b)) w1 w1.drew := (Later.refl w1).drew.chg
          gi_wp2
          obtain ⟨fn, tmps, assign, body, hy, hR⟩ := hyy
          rw [hy]
          refine ⟨fun h => (by cases h), ?_⟩
          refine hR.mono ?_
          clear hR hy
          rintro e V' (⟨rfl, hj3, hc3⟩ | ⟨rfl, hx3, hc3⟩)
          · have hc4 : Chg (fun b => X b ∧ ¬ priv lo0 hi b) w1 V' := ((Later.refl w1).drew.chg).trans hc3
            have hc5 := hchw.trans (hc4.mono (fun b h => (.inr h : b ∈ Ds ∨ (X b ∧ ¬ priv lo0 hi b))))
            have S5 := hSw.chg hc4 (fun b h1 h2 _ h => h.2 ⟨by omega, h2⟩)
            have own5 := own_chg1 ownw hc4 (fun b hb h => h.2 ⟨by have := (own_at ownw b hb).1; omega, hob b hb⟩)
            have bC5 := boxed_turn bCw hc4 (fun h => xC h.1)
            have bY5 := boxed_turn bYw hc4 (fun h => h.2 ⟨hBY.1, by omega⟩)
            have q5 := (S5.at_ j D _ hD hq).head
            clear hch hchw hSw ownw bCw bYw hc3 hc4 dch hown' hS' hS hown h0 hxs cC cY
            gi_wp2
            go_wp2_with fail
            have hjn : J (pre ++ [x]) (V'.alloc (.cells #[.int .i64 x.1, .int .i64 x.2] 27)) := hJ _ _ _ none hj3 (((Later.refl V').alloc _).grown) (fun r e => by cases e)
            have la : Later V' (V'.alloc (.cells #[.int .i64 x.1, .int .i64 x.2] 27)) := (Later.refl V').alloc _
            have S6 := S5.chg (la.chg (X := fun _ => False)) (fun _ _ _ _ h => h)
            have own6 := own_chg1 own5 (la.chg (X := fun _ => False)) (fun _ _ h => h)
            have bC6 := boxed_turn bC5 (la.chg (X := fun _ => False)) (fun h => h)
            have bY6 := boxed_turn bY5 (la.chg (X := fun _ => False)) (fun h => h)
            have hc6 := hc5.trans (la.chg (X := fun b => b ∈ Ds ∨ (X b ∧ ¬ priv lo0 hi b)))
            have hx6 := two_new V' (.int .i64 x.1) (.int .i64 x.2) 27
            have hbn : hi ≤ V'.heap.size := Nat.le_trans (Nat.le_trans hhi hc5.size) (Nat.le_refl _)
            obtain ⟨BN, hBN⟩ : ∃ BN, V'.heap.size = BN := ⟨_, rfl⟩
            rw [hBN] at hx6 hbn ⊢
            clear hj3 S5 own5 bC5 bY5 hc5 la q5 hBN
            generalize V'.alloc (.cells #[.int .i64 x.1, .int .i64 x.2] 27) = W6 at hjn S6 own6 bC6 bY6 hc6 hx6 ⊢
            go_loopw [56] (fun i w2 => ∃ k : Nat, k ≤ n ∧ i = .int .i64 k ∧ SidesB lo hi (Value.slice A n cap).ownBlock w2 Ds (mixed (dropH x) qs' k) ∧ Chg (fun b => b ∈ Ds) W6 w2) (fun i _ => n - (intOf i).toNat)
            case atStart => exact ⟨0, Nat.zero_le _, rfl, by simpa [mixed] using S6, Chg.refl _ _⟩
            case round =>
              rename World => w2
              obtain ⟨k, hk1, rfl, hS2, hc2⟩ := hrel
              have hDge := hS2.ge
              by_cases hlt : k < n
              · obtain ⟨E, hE⟩ : ∃ E, Ds[k]? = some E := ⟨_, List.getElem?_eq_getElem (by omega)⟩
                obtain ⟨q, hqq⟩ : ∃ q, qs'[k]? = some q := ⟨_, List.getElem?_eq_getElem (by omega)⟩
                obtain ⟨g, rfl, hg⟩ := ptr_row own6 hE hn
                have hm1 := mixed_at (g := dropH x) hqq
                have hEm := List.mem_of_getElem? hE
                have hg1 := hc2.cell hg (fun h => hS2.own _ h rfl)
                have hx2 := And.intro (hc2.cell hx6.1 (fun h => by have := (hDge _ h).2; omega)) (hc2.cell hx6.2 (fun h => by have := (hDge _ h).2; omega))
                have hC2 := (boxed_turn bC6 hc2 (fun h => by have := (hDge _ h).1; omega)).cell
                have hG0 := Later.drew (Later.refl w2)
                obtain ⟨Good, hGd⟩ : ∃ G : World → Prop, ∀ W', G W' ↔ Later w2 W' := ⟨_, fun _ => Iff.rfl⟩
                replace hG0 := (hGd _).2 hG0
                have hne : Nonempty (InG Good) := ⟨⟨_, hG0⟩⟩
                have hcq : ∀ (a b : Int × Int) (p : InG Good), Calls Try.prog c #[.agg #[.int .i64 a.1, .int .i64 a.2], .agg #[.int .i64 b.1, .int .i64 b.2]] p.W fun e w'' => e = .returned (.int .i64 (f a b)) ∧ ∃ p' : InG Good, w'' = p'.W := fun a b p => (hcc a b p.W).mono fun e w'' hh => ⟨hh.1, ⟨w'', (hGd _).2 (((hGd _).1 p.h).next hh.2)⟩, rfl⟩
                have gC : ∀ p : InG Good, p.W.cell? ⟨BC, 0, none⟩ = some (.func (.func c) #[] #[]) ∧ p.W.cell? ⟨BN, 0, none⟩ = some (.int .i64 x.1) ∧ p.W.cell? ⟨BN, 1, none⟩ = some (.int .i64 x.2) := fun p => ⟨((hGd _).1 p.h).cell hC2, ((hGd _).1 p.h).cell hx2.1, ((hGd _).1 p.h).cell hx2.2⟩
                have hsd : ∀ p : InG Good, SideQ (fun _ => True) p.W E q := fun p => ((hS2.at_ k E q hE hm1).chg (((hGd _).1 p.h).chg (X := fun _ => False)) (fun h => h) (fun _ _ h => h)).more' (fun _ _ _ => trivial)
                have hql2 : q.length ≤ 4611686018427387904 := by
                  have := hl1.out.2
                  have h2 : q.length ≤ qs'.flatten.length := by
                    rw [List.length_flatten]
                    rw [← List.length_flatten]
                    exact len_flat qs' (List.mem_of_getElem? hqq)
                  omega
                cases q with
                | nil =>
                  have g0 : ∀ p : InG Good, p.W.cell? ⟨E, 3, none⟩ = some (.bool false) := fun p => (hsd p).ok
                  replace hGd := hid hGd
                  clear hsd
                  go_wp2_with fail
                  refine region_in Good (by kernel_rfl) (by kernel_rfl) hG0 ?_
                  repeat (go_big_quiet_step (exact hcq _ _ _))
                  refine wpQuiet_nil ?_
                  intro w7 hw7
                  have l7 := (hGd.out _).1 hw7
                  clear hcq hGd hne hG0 hw7 gC g0
                  go_wp2_with fail
                  go_roundw
                  case rel => exact ⟨k + 1, by omega, by go_num, by rw [mixed_same hqq (rfl)]; exact hS2.chg (l7.chg (X := fun _ => False)) (fun _ _ _ _ h => h), hc2.trans l7.chg⟩
                  case measure => simp [intOf]; omega
                | cons y t =>
                  have g0 : ∀ p : InG Good, p.W.cell? ⟨E, 1, none⟩ = some (.int .i64 y.1) ∧ p.W.cell? ⟨E, 2, none⟩ = some (.int .i64 y.2) ∧ p.W.cell? ⟨E, 3, none⟩ = some (.bool true) := fun p => (hsd p).head
                  replace hGd := hid hGd
                  clear hsd
                  by_cases hcmp : f y x = 0
                  · have hd1 : decide (f y x = 0) = true := by simp [hcmp]
                    have hdr : dropH x (y :: t) = t := by simp only [dropH]; rw [if_pos ((cmpR_eq _ _).2 ((hf.out _ _).2.1 hcmp))]
                    replace hdr := hid hdr
                    go_wp2_with fail
                    refine region_in Good (by kernel_rfl) (by kernel_rfl) hG0 ?_
                    repeat (go_big_quiet_step (exact hcq _ _ _))
                    refine wpQuiet_nil ?_
                    intro w7 hw7
                    have l7 := (hGd.out _).1 hw7
                    clear hcq hGd hne hG0 hw7 gC g0
                    have S7 := hS2.chg (l7.chg (X := fun _ => False)) (fun _ _ _ _ h => h)
                    have hst := S7.step_at hE hm1 hql2
                    have hc7 : Chg (fun b => b ∈ Ds) W6 w7 := hc2.trans l7.chg
                    go_wp2_with fail
                    go_at_call 81; refine hst.mono ?_; rintro e w8 ⟨⟨v, rfl⟩, c8, S8⟩
                    go_wp2_with fail
                    go_roundw
                    case rel => exact ⟨k + 1, by omega, by go_num, by rw [mixed_next hqq, hdr.out]; exact S8, hc7.trans (c8.mono (fun b h => by have : b = E := h; subst this; exact hEm))⟩
                    case measure => simp [intOf]; omega
                  · have hd1 : decide (f y x = 0) = false := by simp [hcmp]
                    have hd2 : (f y x == 0) = false := by simp [hcmp]
                    have hdr : dropH x (y :: t) = y :: t := by simp only [dropH]; rw [if_neg (fun h => hcmp ((hf.out _ _).2.2 ((cmpR_eq _ _).1 h)))]
                    replace hdr := hid hdr
                    go_wp2_with fail
                    refine region_in Good (by kernel_rfl) (by kernel_rfl) hG0 ?_
                    repeat (go_big_quiet_step (exact hcq _ _ _))
                    refine wpQuiet_nil ?_
                    intro w7 hw7
                    have l7 := (hGd.out _).1 hw7
                    clear hcq hGd hne hG0 hw7 gC g0
                    go_wp2_with fail
                    go_roundw
                    case rel => exact ⟨k + 1, by omega, by go_num, by rw [mixed_same hqq (hdr.out)]; exact hS2.chg (l7.chg (X := fun _ => False)) (fun _ _ _ _ h => h), hc2.trans l7.chg⟩
                    case measure => simp [intOf]; omega
              · obtain rfl : n = k := by omega
                have hmx : mixed (dropH x) qs' n = qs'.map (dropH x) := by unfold mixed; rw [List.take_of_length_le (by omega), List.drop_of_length_le (by omega), List.append_nil]
                rw [hmx] at hS2
                have hcA : Chg (priv lo0 hi) W6 w2 := hc2.mono (fun b h => ⟨by have := (hDge _ h).1; omega, (hDge _ h).2⟩)
                have hj8 := hJz _ _ _ hjn hcA
                have hl8 := hl1.out
                have hlq : (qs'.map (dropH x)).flatten.length ≤ 4611686018427387904 := Nat.le_trans (drop_all_len x qs') hl8.2
                have hc8 : Chg (fun b => b ∈ Ds ∨ (X b ∧ ¬ priv lo0 hi b)) V w2 := hc6.trans (hc2.mono (fun b h => .inl h))
                have own8 := own_chg1 own6 hc2 (fun b hb h => hS2.own _ h hb)
                replace hmx := hid hmx
                have hl9 := hid (And.intro hl8.1 hlq)
                clear hJ hJz hl1 hl8 hlq hx6 own6 S6 hjn hc2 hcA hc6
                go_wp2_with fail
                go_roundg (m + 1)
                case measure => omega
                case rel => exact ⟨pre ++ [x], qs'.map (dropH x), hj8, hid (by rw [hx1.out]; simp), Nat.succ_pos _, hl9, hS2, own8, hc8⟩
          · have hc4 : Chg (fun b => X b ∧ ¬ priv lo0 hi b) w1 V' := ((Later.refl w1).drew.chg).trans hc3
            have hc5 := hchw.trans (hc4.mono (fun b h => (.inr h : b ∈ Ds ∨ (X b ∧ ¬ priv lo0 hi b))))
            gi_wp2
            go_wp2_with fail
            refine bodyPost_ret (v := .tuple #[]) (by simp [results, Try.results80, go_sem]) rfl ?_
            exact ⟨⟨_, rfl⟩, .inr ⟨pre ++ [x], ⟨_, by rw [hx1.out, List.append_assoc]; rfl⟩, hx3⟩, hc5⟩
end Go.Proofs.Yteledidnhjioaaa.Sh
