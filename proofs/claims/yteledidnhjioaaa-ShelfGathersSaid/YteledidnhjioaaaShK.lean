import Derived.Test.YteledidnhjioaaaShJ
import Derived.RangeFuncNested
import Derived.RangeFuncBound
import Derived.RangeFuncCalls
import Derived.RangeFuncLeaves
import Derived.OwnWalkIn
import Derived.TacticsInMore
import Derived.LoopNIn
import Derived.LoopIn
namespace Go.Proofs.Yteledidnhjioaaa.Sh
open Go.RowKit Go.Lib Go.Proofs Go.Shelf
set_option linter.unusedVariables false
set_option linter.unusedSimpArgs false
attribute [local go_sem] Oper.semAt_some
abbrev FW : Fence := Fence.wide
theorem room_of_none {F : Fence} (hd : F.depth = none) (k : Nat) : F.room k := fun d h => by rw [hd] at h; cases h
theorem RoundIn.anyDepth {F : Fence} (hd : F.depth = none) {m m' : Nat} {P : Program} {l : Nat} {f : FuncId} {tmps : Array Value} {assign body : Code} {w : World} {R : Ending → World → Prop}
    (h : RoundIn F m P l f tmps assign body w R) : RoundIn F m' P l f tmps assign body w R := ⟨h.1, fun c cs _ => h.2 c cs (room_of_none hd _)⟩
theorem YieldAt.anyDepth {F : Fence} (hd : F.depth = none) {m : Nat} (m' : Nat) {P : Program} {l : Nat} {args : Array Value} {W : World} {R : Ending → World → Prop} (h : YieldAt F m P l args W R) : YieldAt F m' P l args W R := by
  obtain ⟨fn, tmps, assign, body, hy, hR⟩ := h
  exact ⟨fn, tmps, assign, body, hy, RoundIn.anyDepth hd hR⟩
theorem Tr.from_length_le {skip : (Int × Int) → Bool} : ∀ T : Tr (Int × Int), (T.from_ skip).length ≤ T.size
  | .leaf => Nat.le_refl _
  | .node l x r => by
    have h1 := from_length_le (skip := skip) l
    have h2 := from_length_le (skip := skip) r
    simp only [Tr.from_, Tr.size]
    split <;> simp <;> omega
set_option maxRecDepth 100000 in
set_option maxHeartbeats 8000000 in
theorem tree_walk (l N : Nat) {ok X : Nat → Prop} {sk : Nat} {cap : Array Value} {skip : (Int × Int) → Bool} {Q : World → Prop} (hQl : ∀ A B, Q A → Later A B → Q B) (hQk : ∀ A B, Q A → Chg X A B → Q B) (hX : ∀ b, X b → ¬ ok b)
    (hsk : ∀ (x : Int × Int) (W : World), Q W → Calls Try.prog sk (#[.agg #[.int .i64 x.1, .int .i64 x.2]] ++ cap) W fun e W' => e = .returned (.bool (skip x)) ∧ Later W W') (hen : ∀ args w, (callFunc sk args).run Try.prog w = .ok (.enter sk args) w)
    {J Jx : List (Int × Int) → World → Prop} (hJ : ∀ s A B, J s A → Later A B → J s B) (hJx : ∀ s A B, Jx s A → Later A B → Jx s B)
    (hY : ∀ m pre x W, J pre W → pre.length < N → YieldAt FW m Try.prog l #[.agg #[.int .i64 x.1, .int .i64 x.2]] W fun e W' =>
      (e = .returned (.bool true) ∧ J (pre ++ [x]) W' ∧ Chg X W W') ∨ (e = .returned (.bool false) ∧ Jx (pre ++ [x]) W')) (T : Tr (Int × Int)) :
    ∀ (n : Nat) (p : Option Addr) (pre : List (Int × Int)) (W : World), IsT ok W p T → Q W → J pre W → pre.length + (T.from_ skip).length ≤ N →
      CallsIn FW n Try.prog 58 #[.pointer p, .func (.func sk) #[] cap, .func (.yield l) #[] #[]] W fun e W' =>
        (e = .returned (.bool true) ∧ J (pre ++ T.from_ skip) W' ∧ Chg X W W') ∨ (e = .returned (.bool false) ∧ ∃ q, q <+: T.from_ skip ∧ Jx (pre ++ q) W') := by
  induction T with
  | leaf =>
    intro n p pre W ht hq hj _
    obtain rfl : p = none := ht
    refine callsIn_of_wp Try.func58 rfl trivial ?_ rfl
    simp only [Try.ntmps58, List.size_toArray, List.length_cons, List.length_nil, Nat.reduceAdd, Nat.reduceSub, Array.replicate_succ, Array.replicate_zero, List.push_toArray, List.append_toArray, List.nil_append, List.cons_append]
    gi_wp2
    go_ret
    exact .inl ⟨rfl, by simpa [Tr.from_] using hj, Chg.refl _ _⟩
  | node tl x tr ihl ihr =>
    intro n p pre W ht hq hj hN
    obtain ⟨b, pl, pr, rfl, hb, hcn, hl, hr⟩ := IsT.nodeK ht
    have hk0 := Keeps.refl ok W
    have h58 : FW.fn 58 := trivial
    by_cases hs : skip x = true
    · have hfr : Tr.from_ skip (.node tl x tr) = tr.from_ skip := by simp only [Tr.from_]; rw [if_pos hs]
      rw [hfr] at hN ⊢
      have hsx := hsk x W hq
      rw [hs] at hsx
      have ih : ∀ m W1, Later W W1 → CallsIn FW m Try.prog 58 #[.pointer pr, .func (.func sk) #[] cap, .func (.yield l) #[] #[]] W1 fun e W' =>
        (e = .returned (.bool true) ∧ J (pre ++ tr.from_ skip) W' ∧ Chg X W1 W') ∨ (e = .returned (.bool false) ∧ ∃ q, q <+: tr.from_ skip ∧ Jx (pre ++ q) W') := fun m W1 h1 => ihr m pr pre W1 (hr W1 h1.keeps) (hQl _ _ hq h1) (hJ _ _ _ hj h1) hN
      clear ihl ihr hsk hY hfr
      refine callsIn_of_wp Try.func58 rfl trivial ?_ rfl
      simp only [Try.ntmps58, List.size_toArray, List.length_cons, List.length_nil, Nat.reduceAdd, Nat.reduceSub, Array.replicate_succ, Array.replicate_zero, List.push_toArray, List.append_toArray, List.nil_append, List.cons_append]
      gi_wp2_with (first
        | ((try refine ⟨trivial, ?_⟩); (try refine ⟨fun h => (by cases h), ?_⟩); (with_reducible refine (callsIn_wide.2 hsx).mono ?_); clear hsx; rintro e W1 ⟨rfl, hb1⟩; have hk1 : Keeps ok W W1 := hb1.keeps)
        | ((try refine ⟨fun h => (by cases h), ?_⟩); gi_at_call 58; refine (ih _ _ hb1).mono ?_; clear ih; rintro e W4 (⟨rfl, hj4, hc4⟩ | ⟨rfl, hx4⟩)))
      case h_3 => exact absurd ‹some undef = some (Value.bool _)› (by unfold undef; simp)
      all_goals
        first
          | exact absurd ‹some undef = some (Value.bool _)› (by unfold undef; simp)
          | (refine ⟨fun _ h => (by cases h), ?_⟩
             gi_wp2_with ((try refine ⟨fun h => (by cases h), ?_⟩); gi_at_call 58; refine (ih _ _ hb1).mono ?_; clear ih; rintro e W4 (⟨rfl, hj4, hc4⟩ | ⟨rfl, hx4⟩))
             · go_ret
               exact .inl ⟨rfl, hj4, hb1.chg.trans hc4⟩
             · go_ret
               exact .inr ⟨rfl, hx4⟩)
    · have hs' : skip x = false := by simpa using hs
      have hfr : Tr.from_ skip (.node tl x tr) = tl.from_ skip ++ x :: tr.from_ skip := by simp only [Tr.from_]; rw [if_neg hs]
      rw [hfr] at hN ⊢
      have hNN := hN
      simp only [List.length_append, List.length_cons] at hN
      have hsx := hsk x W hq
      rw [hs'] at hsx
      have kc : ∀ {A B : World}, Chg X A B → Keeps ok A B := fun h => h.keeps hX
      have ih1 : ∀ m W1, Later W W1 → CallsIn FW m Try.prog 58 #[.pointer pl, .func (.func sk) #[] cap, .func (.yield l) #[] #[]] W1 fun e W' =>
        (e = .returned (.bool true) ∧ J (pre ++ tl.from_ skip) W' ∧ Chg X W W' ∧ Keeps ok W W') ∨ (e = .returned (.bool false) ∧ ∃ q, q <+: tl.from_ skip ∧ Jx (pre ++ q) W') :=
        fun m W1 h1 => (ihl m pl pre W1 (hl W1 h1.keeps) (hQl _ _ hq h1) (hJ _ _ _ hj h1) (by omega)).mono fun e W' h => h.imp_left fun ⟨a, b, c⟩ => ⟨a, b, h1.chg.trans c, kc (h1.chg.trans c)⟩
      have ih2 : ∀ m W3, J (pre ++ tl.from_ skip ++ [x]) W3 → Chg X W W3 → CallsIn FW m Try.prog 58 #[.pointer pr, .func (.func sk) #[] cap, .func (.yield l) #[] #[]] W3 fun e W' =>
        (e = .returned (.bool true) ∧ J (pre ++ tl.from_ skip ++ [x] ++ tr.from_ skip) W' ∧ Chg X W3 W') ∨ (e = .returned (.bool false) ∧ ∃ q, q <+: tr.from_ skip ∧ Jx (pre ++ tl.from_ skip ++ [x] ++ q) W') :=
        fun m W3 hj3 h3 => ihr m pr _ W3 (hr W3 (kc h3)) (hQk _ _ hq h3) hj3 (by simp only [List.length_append, List.length_cons, List.length_nil]; omega)
      have hy2 : ∀ m W2, J (pre ++ tl.from_ skip) W2 → Chg X W W2 → YieldAt FW m Try.prog l #[.agg #[.int .i64 x.1, .int .i64 x.2]] W2 fun e W3 =>
        (e = .returned (.bool true) ∧ J (pre ++ tl.from_ skip ++ [x]) W3 ∧ Chg X W W3 ∧ Keeps ok W W3) ∨ (e = .returned (.bool false) ∧ Jx (pre ++ tl.from_ skip ++ [x]) W3) :=
        fun m W2 hj2 h2 => YieldAt.mono (hY m _ x W2 hj2 (by simp only [List.length_append]; omega)) fun e W3 h => h.imp_left fun ⟨a, b, c⟩ => ⟨a, b, h2.trans c, kc (h2.trans c)⟩
      clear ihl ihr hsk hY hfr hN hNN
      refine callsIn_of_wp Try.func58 rfl trivial ?_ rfl
      simp only [Try.ntmps58, List.size_toArray, List.length_cons, List.length_nil, Nat.reduceAdd, Nat.reduceSub, Array.replicate_succ, Array.replicate_zero, List.push_toArray, List.append_toArray, List.nil_append, List.cons_append]
      gi_wp2_with (first
        | ((try refine ⟨trivial, ?_⟩); (try refine ⟨fun h => (by cases h), ?_⟩); (with_reducible refine (callsIn_wide.2 hsx).mono ?_); clear hsx; rintro e W1 ⟨rfl, hb1⟩; have hk1 : Keeps ok W W1 := hb1.keeps)
        | ((try refine ⟨fun h => (by cases h), ?_⟩); gi_at_call 58; refine (ih1 _ _ hb1).mono ?_; clear ih1; rintro e W2 (⟨rfl, hj2, hc2, hk2⟩ | ⟨rfl, hx2⟩))
        | ((try refine ⟨fun h => (by cases h), ?_⟩); obtain ⟨fn, tmps, assign, body, hy, hR⟩ := hy2 (n - 1) _ hj2 hc2; clear hy2; gi_wp2)
        | ((try refine ⟨fun h => (by cases h), ?_⟩); refine hR.mono ?_; clear hR; rintro e W3 (⟨rfl, hj3, hc3, hk3⟩ | ⟨rfl, hx3⟩))
        | ((try refine ⟨fun h => (by cases h), ?_⟩); gi_at_call 58; refine (ih2 _ _ hj3 hc3).mono ?_; clear ih2; rintro e W4 (⟨rfl, hj4, hc4⟩ | ⟨rfl, hx4⟩)))
      · go_ret
        exact .inl ⟨rfl, by simpa [List.append_assoc] using hj4, hc3.trans hc4⟩
      · go_ret
        obtain ⟨q, ⟨r, hr'⟩, hx⟩ := hx4
        exact .inr ⟨rfl, tl.from_ skip ++ x :: q, ⟨r, by simp [← hr']⟩, by simpa [List.append_assoc] using hx⟩
      · go_ret
        exact .inr ⟨rfl, tl.from_ skip ++ [x], ⟨tr.from_ skip, by simp⟩, by simpa [List.append_assoc] using hx3⟩
      · refine ⟨fun _ h => (by cases h), ?_⟩
        gi_wp2
        go_ret
        obtain ⟨q, hq', hx⟩ := hx2
        exact .inr ⟨rfl, q, hq'.trans (by simp), hx⟩
end Go.Proofs.Yteledidnhjioaaa.Sh
