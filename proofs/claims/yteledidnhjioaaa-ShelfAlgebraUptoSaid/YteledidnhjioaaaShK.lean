import Derived.Test.YteledidnhjioaaaShH
import Derived.RangeFuncNested
import Derived.RangeFuncBound
import Derived.RangeFuncCalls
import Derived.RangeFuncLeaves
import Derived.OwnWalkIn
import Derived.TacticsInMore
import Derived.LoopNIn
import Derived.LoopIn
namespace Go.Proofs.Yteledidnhjioaaa.Sh
open Go.RowKit Go.Lib Go.Proofs Go.Shelf
set_option linter.unusedVariables false
set_option linter.unusedSimpArgs false
attribute [local go_sem] Oper.semAt_some
abbrev FW : Fence := Fence.wide
theorem room_of_none {F : Fence} (hd : F.depth = none) (k : Nat) : F.room k := fun d h => by rw [hd] at h; cases h
theorem RoundIn.anyDepth {F : Fence} (hd : F.depth = none) {m m' : Nat} {P : Program} {l : Nat} {f : FuncId} {tmps : Array Value} {assign body : Code} {w : World} {R : Ending → World → Prop}
    (h : RoundIn F m P l f tmps assign body w R) : RoundIn F m' P l f tmps assign body w R := ⟨h.1, fun c cs _ => h.2 c cs (room_of_none hd _)⟩
theorem YieldAt.anyDepth {F : Fence} (hd : F.depth = none) {m : Nat} (m' : Nat) {P : Program} {l : Nat} {args : Array Value} {W : World} {R : Ending → World → Prop} (h : YieldAt F m P l args W R) : YieldAt F m' P l args W R := by
  obtain ⟨fn, tmps, assign, body, hy, hR⟩ := h
  exact ⟨fn, tmps, assign, body, hy, RoundIn.anyDepth hd hR⟩
theorem Tr.from_length_le {skip : (Int × Int) → Bool} : ∀ T : Tr (Int × Int), (T.from_ skip).length ≤ T.size
  | .leaf => Nat.le_refl _
  | .node l x r => by
    have h1 := from_length_le (skip := skip) l
    have h2 := from_length_le (skip := skip) r
    simp only [Tr.from_, Tr.size]
    split <;> simp <;> omega
set_option maxRecDepth 100000 in
set_option maxHeartbeats 8000000 in
theorem tree_walk (l N : Nat) {ok X : Nat → Prop} {sk : Nat} {cap : Array Value} {skip : (Int × Int) → Bool} {Q : World → Prop} (hQl : ∀ A B, Q A → Later A B → Q B) (hQk : ∀ A B, Q A → Chg X A B → Q B) (hX : ∀ b, X b → ¬ ok b)
    (hsk : ∀ (x : Int × Int) (W : World), Q W → Calls Try.prog sk (#[.agg #[.int .i64 x.1, .int .i64 x.2]] ++ cap) W fun e W' => e = .returned (.bool (skip x)) ∧ Later W W') (hen : ∀ args w, (callFunc sk args).run Try.prog w = .ok (.enter sk args) w)
    {J Jx : List (Int × Int) → World → Prop} (hJ : ∀ s A B, J s A → Later A B → J s B) (hJx : ∀ s A B, Jx s A → Later A B → Jx s B)
    (hY : ∀ m pre x W, J pre W → pre.length < N → YieldAt FW m Try.prog l #[.agg #[.int .i64 x.1, .int .i64 x.2]] W fun e W' =>
      (e = .returned (.bool true) ∧ J (pre ++ [x]) W' ∧ Chg X W W') ∨ (e = .returned (.bool false) ∧ Jx (pre ++ [x]) W')) (T : Tr (Int × Int)) :
    ∀ (n : Nat) (p : Option Addr) (pre : List (Int × Int)) (W : World), IsT ok W p T → Q W → J pre W → pre.length + (T.from_ skip).length ≤ N →
      CallsIn FW n Try.prog 58 #[.pointer p, .func (.func sk) #[] cap, .func (.yield l) #[] #[]] W fun e W' =>
        (e = .returned (.bool true) ∧ J (pre ++ T.from_ skip) W' ∧ Chg X W W') ∨ (e = .returned (.bool false) ∧ ∃ q, q <+: T.from_ skip ∧ Jx (pre ++ q) W') := by
  induction T with
  | leaf =>
    intro n p pre W ht hq hj _
    obtain rfl : p = none := ht
    refine callsIn_of_wp Try.func58 rfl trivial ?_ rfl
    simp only [Try.ntmps58, List.size_toArray, List.length_cons, List.length_nil, Nat.reduceAdd, Nat.reduceSub, Array.replicate_succ, Array.replicate_zero, List.push_toArray, List.append_toArray, List.nil_append, List.cons_append]
    gi_wp2
    go_ret
    exact .inl ⟨rfl, by simpa [Tr.from_] using hj, Chg.refl _ _⟩
  | node tl x tr ihl ihr =>
    intro n p pre W ht hq hj hN
    obtain ⟨b, pl, pr, rfl, hb, hcn, hl, hr⟩ := IsT.nodeK ht
    have hk0 := Keeps.refl ok W
    have h58 : FW.fn 58 := trivial
    by_cases hs : skip x = true
    · have hfr : Tr.from_ skip (.node tl x tr) = tr.from_ skip := by simp only [Tr.from_]; rw [if_pos hs]
      rw [hfr] at hN ⊢
      have hsx := hsk x W hq
      rw [hs] at hsx
      have ih : ∀ m W1, Later W W1 → CallsIn FW m Try.prog 58 #[.pointer pr, .func (.func sk) #[] cap, .func (.yield l) #[] #[]] W1 fun e W' =>
        (e = .returned (.bool true) ∧ J (pre ++ tr.from_ skip) W' ∧ Chg X W1 W') ∨ (e = .returned (.bool false) ∧ ∃ q, q <+: tr.from_ skip ∧ Jx (pre ++ q) W') := fun m W1 h1 => ihr m pr pre W1 (hr W1 h1.keeps) (hQl _ _ hq h1) (hJ _ _ _ hj h1) hN
      clear ihl ihr hsk hY hfr
      refine callsIn_of_wp Try.func58 rfl trivial ?_ rfl
      simp only [Try.ntmps58, List.size_toArray, List.length_cons, List.length_nil, Nat.reduceAdd, Nat.reduceSub, Array.replicate_succ, Array.replicate_zero, List.push_toArray, List.append_toArray, List.nil_append, List.cons_append]
      gi_wp2_with (first
        | ((try refine ⟨trivial, ?_⟩); (try refine ⟨fun h => (by cases h), ?_⟩); (with_reducible refine (callsIn_wide.2 hsx).mono ?_); clear hsx; rintro e W1 ⟨rfl, hb1⟩; have hk1 : Keeps ok W W1 := hb1.keeps)
        | ((try refine ⟨fun h => (by cases h), ?_⟩); gi_at_call 58; refine (ih _ _ hb1).mono ?_; clear ih; rintro e W4 (⟨rfl, hj4, hc4⟩ | ⟨rfl, hx4⟩)))
      case h_3 => exact absurd ‹some undef = some (Value.bool _)› (by unfold undef; simp)
      all_goals
        first
          | exact absurd ‹some undef = some (Value.bool _)› (by unfold undef; simp)
          | (refine ⟨fun _ h => (by cases h), ?_⟩
             gi_wp2_with ((try refine ⟨fun h => (by cases h), ?_⟩); gi_at_call 58; refine (ih _ _ hb1).mono ?_; clear ih; rintro e W4 (⟨rfl, hj4, hc4⟩ | ⟨rfl, hx4⟩))
             · go_ret
               exact .inl ⟨rfl, hj4, hb1.chg.trans hc4⟩
             · go_ret
               exact .inr ⟨rfl, hx4⟩)
    · have hs' : skip x = false := by simpa using hs
      have hfr : Tr.from_ skip (.node tl x tr) = tl.from_ skip ++ x :: tr.from_ skip := by simp only [Tr.from_]; rw [if_neg hs]
      rw [hfr] at hN ⊢
      have hNN := hN
      simp only [List.length_append, List.length_cons] at hN
      have hsx := hsk x W hq
      rw [hs'] at hsx
      have kc : ∀ {A B : World}, Chg X A B → Keeps ok A B := fun h => h.keeps hX
      have ih1 : ∀ m W1, Later W W1 → CallsIn FW m Try.prog 58 #[.pointer pl, .func (.func sk) #[] cap, .func (.yield l) #[] #[]] W1 fun e W' =>
        (e = .returned (.bool true) ∧ J (pre ++ tl.from_ skip) W' ∧ Chg X W W' ∧ Keeps ok W W') ∨ (e = .returned (.bool false) ∧ ∃ q, q <+: tl.from_ skip ∧ Jx (pre ++ q) W') :=
        fun m W1 h1 => (ihl m pl pre W1 (hl W1 h1.keeps) (hQl _ _ hq h1) (hJ _ _ _ hj h1) (by omega)).mono fun e W' h => h.imp_left fun ⟨a, b, c⟩ => ⟨a, b, h1.chg.trans c, kc (h1.chg.trans c)⟩
      have ih2 : ∀ m W3, J (pre ++ tl.from_ skip ++ [x]) W3 → Chg X W W3 → CallsIn FW m Try.prog 58 #[.pointer pr, .func (.func sk) #[] cap, .func (.yield l) #[] #[]] W3 fun e W' =>
        (e = .returned (.bool true) ∧ J (pre ++ tl.from_ skip ++ [x] ++ tr.from_ skip) W' ∧ Chg X W3 W') ∨ (e = .returned (.bool false) ∧ ∃ q, q <+: tr.from_ skip ∧ Jx (pre ++ tl.from_ skip ++ [x] ++ q) W') :=
        fun m W3 hj3 h3 => ihr m pr _ W3 (hr W3 (kc h3)) (hQk _ _ hq h3) hj3 (by simp only [List.length_append, List.length_cons, List.length_nil]; omega)
      have hy2 : ∀ m W2, J (pre ++ tl.from_ skip) W2 → Chg X W W2 → YieldAt FW m Try.prog l #[.agg #[.int .i64 x.1, .int .i64 x.2]] W2 fun e W3 =>
        (e = .returned (.bool true) ∧ J (pre ++ tl.from_ skip ++ [x]) W3 ∧ Chg X W W3 ∧ Keeps ok W W3) ∨ (e = .returned (.bool false) ∧ Jx (pre ++ tl.from_ skip ++ [x]) W3) :=
        fun m W2 hj2 h2 => YieldAt.mono (hY m _ x W2 hj2 (by simp only [List.length_append]; omega)) fun e W3 h => h.imp_left fun ⟨a, b, c⟩ => ⟨a, b, h2.trans c, kc (h2.trans c)⟩
      clear ihl ihr hsk hY hfr hN hNN
      refine callsIn_of_wp Try.func58 rfl trivial ?_ rfl
      simp only [Try.ntmps58, List.size_toArray, List.length_cons, List.length_nil, Nat.reduceAdd, Nat.reduceSub, Array.replicate_succ, Array.replicate_zero, List.push_toArray, List.append_toArray, List.nil_append, List.cons_append]
      gi_wp2_with (first
        | ((try refine ⟨trivial, ?_⟩); (try refine ⟨fun h => (by cases h), ?_⟩); (with_reducible refine (callsIn_wide.2 hsx).mono ?_); clear hsx; rintro e W1 ⟨rfl, hb1⟩; have hk1 : Keeps ok W W1 := hb1.keeps)
        | ((try refine ⟨fun h => (by cases h), ?_⟩); gi_at_call 58; refine (ih1 _ _ hb1).mono ?_; clear ih1; rintro e W2 (⟨rfl, hj2, hc2, hk2⟩ | ⟨rfl, hx2⟩))
        | ((try refine ⟨fun h => (by cases h), ?_⟩); obtain ⟨fn, tmps, assign, body, hy, hR⟩ := hy2 (n - 1) _ hj2 hc2; clear hy2; gi_wp2)
        | ((try refine ⟨fun h => (by cases h), ?_⟩); refine hR.mono ?_; clear hR; rintro e W3 (⟨rfl, hj3, hc3, hk3⟩ | ⟨rfl, hx3⟩))
        | ((try refine ⟨fun h => (by cases h), ?_⟩); gi_at_call 58; refine (ih2 _ _ hj3 hc3).mono ?_; clear ih2; rintro e W4 (⟨rfl, hj4, hc4⟩ | ⟨rfl, hx4⟩)))
      · go_ret
        exact .inl ⟨rfl, by simpa [List.append_assoc] using hj4, hc3.trans hc4⟩
      · go_ret
        obtain ⟨q, ⟨r, hr'⟩, hx⟩ := hx4
        exact .inr ⟨rfl, tl.from_ skip ++ x :: q, ⟨r, by simp [← hr']⟩, by simpa [List.append_assoc] using hx⟩
      · go_ret
        exact .inr ⟨rfl, tl.from_ skip ++ [x], ⟨tr.from_ skip, by simp⟩, by simpa [List.append_assoc] using hx3⟩
      · refine ⟨fun _ h => (by cases h), ?_⟩
        gi_wp2
        go_ret
        obtain ⟨q, hq', hx⟩ := hx2
        exact .inr ⟨rfl, q, hq'.trans (by simp), hx⟩
end Go.Proofs.Yteledidnhjioaaa.Sh
namespace Go.Proofs.Yteledidnhjioaaa.Sh
open Go.RowKit Go.Lib Go.Proofs Go.Shelf
set_option linter.unusedVariables false
set_option linter.unusedSimpArgs false
attribute [local go_sem] Oper.semAt_some
theorem Later.grown {A B : World} (h : Later A B) : A.grownBy B none := ⟨h.os, h.tape, h.output, h.size, fun k hk _ => h.block k hk⟩
theorem abides_later {β : Type} {n : Nat} {J : β → World → Prop} (h : AbidesFrom n J) : ∀ s A B, J s A → Later A B → J s B := fun s A B hs k => h s A B none hs k.grown (fun _ e => by cases e)
abbrev encP (x : Int × Int) : Array Value := #[.agg #[.int .i64 x.1, .int .i64 x.2]]
/-- a function value that tells just these elements -/
def SeqT (X : Nat → Prop) (g : Nat) (lb : Array Value) (xs : List (Int × Int)) (w0 : World) : Prop :=
  ∀ n, SeqStopsK FW n Try.prog g lb encP (Chg X) (fun ys => ys = xs) (fun pre => pre <+: xs) xs.length w0
/-- never skipped -/
theorem skip_all (x : Int × Int) (W : World) : Calls Try.prog 59 (#[.agg #[.int .i64 x.1, .int .i64 x.2]] ++ #[]) W fun e W' => e = .returned (.bool false) ∧ Later W W' := by
  have hla : Later W (W.alloc (.cells #[.int .i64 x.1, .int .i64 x.2] 27)) := Later.two
  show Calls Try.prog 59 #[.agg #[.int .i64 x.1, .int .i64 x.2]] W _
  go_enter Try.func59, Try.ntmps59
  go_wp2
  go_ret
  exact ⟨rfl, hla⟩
theorem enters59 : ∀ args w, (callFunc 59 args).run Try.prog w = .ok (.enter 59 args) w := fun args w => enters_of Try.func59 (by kernel_rfl) rfl args w
theorem enters65 : ∀ args w, (callFunc 65 args).run Try.prog w = .ok (.enter 65 args) w := fun args w => enters_of Try.func65 (by kernel_rfl) rfl args w
theorem enters57 : ∀ args w, (callFunc 57 args).run Try.prog w = .ok (.enter 57 args) w := fun args w => enters_of Try.func57 (by kernel_rfl) rfl args w
theorem enters64 : ∀ args w, (callFunc 64 args).run Try.prog w = .ok (.enter 64 args) w := fun args w => enters_of Try.func64 (by kernel_rfl) rfl args w
/-- skipped, where below -/
theorem skip_from {c : Nat} {f : (Int × Int) → (Int × Int) → Int} (hc : Comp c f) (x : Int × Int) (cb xb : Nat) (y : Int × Int) (W : World)
    (h0 : W.cell? ⟨cb, 0, none⟩ = some (.func (.func c) #[] #[])) (h1 : W.cell? ⟨xb, 0, none⟩ = some (.int .i64 x.1)) (h2 : W.cell? ⟨xb, 1, none⟩ = some (.int .i64 x.2)) :
    Calls Try.prog 65 (#[.agg #[.int .i64 y.1, .int .i64 y.2]] ++ #[.pointer (some ⟨cb, 0, none⟩), .pointer (some ⟨xb, 0, none⟩)]) W fun e W' => e = .returned (.bool (decide (f y x < 0))) ∧ Later W W' := by
  have hla : Later W (W.alloc (.cells #[.int .i64 y.1, .int .i64 y.2] 27)) := Later.two
  have k0 := hla.cell h0
  have k1 := hla.cell h1
  have k2 := hla.cell h2
  have hen := hc.enters
  have hcc := hc.calls
  show Calls Try.prog 65 #[.agg #[.int .i64 y.1, .int .i64 y.2], .pointer (some ⟨cb, 0, none⟩), .pointer (some ⟨xb, 0, none⟩)] W _
  go_enter Try.func65, Try.ntmps65
  go_wp2_with ((with_reducible refine (hcc _ _ _).mono ?_); rintro e w1 ⟨rfl, hb1⟩)
  go_ret
  exact ⟨rfl, hla.next hb1⟩
set_option maxRecDepth 100000 in
set_option maxHeartbeats 4000000 in
theorem all_seq {X : Nat → Prop} {w : World} {bt : Nat} {p : Option Addr} {T : Tr (Int × Int)} (hb : w.cell? ⟨bt, 0, none⟩ = some (.pointer p)) (ht : Tree X w p T) : SeqT X 57 #[.pointer (some ⟨bt, 0, none⟩)] T.list w := by
  intro n l J Jx W hW hJ hJx hY h0
  obtain ⟨ok, hT, hX⟩ := ht.keep (Later.chg hW)
  have hcell := Later.cell hW hb
  have hwk := tree_walk l T.list.length (Q := fun _ => True) (fun _ _ _ _ => trivial) (fun _ _ _ _ => trivial) hX (fun x W _ => skip_all x W) enters59 (abides_later hJ) (abides_later hJx)
    (fun m pre x W1 hj hl => YieldAt.anyDepth rfl m (hY pre x W1 hj hl)) T (n - 1) p [] W hT trivial h0 (by simp [from_all])
  rw [from_all] at hwk
  show CallsIn FW n Try.prog 57 #[.func (.yield l) #[] #[], .pointer (some ⟨bt, 0, none⟩)] W _
  refine callsIn_of_wp Try.func57 rfl trivial ?_ rfl
  simp only [Try.ntmps57, List.size_toArray, List.length_cons, List.length_nil, Nat.reduceAdd, Nat.reduceSub, Array.replicate_succ, Array.replicate_zero, List.push_toArray, List.append_toArray, List.nil_append, List.cons_append]
  have h58 : FW.fn 58 := trivial
  gi_wp2_with ((try refine ⟨fun h => (by cases h), ?_⟩); gi_at_call 58; refine hwk.mono ?_; clear hwk; rintro e W1 (⟨rfl, hJ1, _⟩ | ⟨rfl, q, hq, hx⟩))
  · go_end0
    exact ⟨⟨_, rfl⟩, .inl ⟨_, rfl, by simpa using hJ1⟩⟩
  · go_end0
    exact ⟨⟨_, rfl⟩, .inr ⟨q, hq, by simpa using hx⟩⟩
set_option maxRecDepth 100000 in
set_option maxHeartbeats 4000000 in
theorem from_seq {X : Nat → Prop} {w : World} {bt cb xb : Nat} {p : Option Addr} {T : Tr (Int × Int)} {c : Nat} {f : (Int × Int) → (Int × Int) → Int} (hc : Comp c f) (x : Int × Int) (hb : w.cell? ⟨bt, 0, none⟩ = some (.pointer p)) (ht : Tree X w p T)
    (h0' : w.cell? ⟨cb, 0, none⟩ = some (.func (.func c) #[] #[])) (h1' : w.cell? ⟨xb, 0, none⟩ = some (.int .i64 x.1)) (h2' : w.cell? ⟨xb, 1, none⟩ = some (.int .i64 x.2)) (hcX : ¬ X cb) (hxX : ¬ X xb) :
    SeqT X 64 #[.pointer (some ⟨bt, 0, none⟩), .pointer (some ⟨cb, 0, none⟩), .pointer (some ⟨xb, 0, none⟩)] (T.from_ fun y => decide (f y x < 0)) w := by
  intro n l J Jx W hW hJ hJx hY h0
  obtain ⟨ok, hT, hX⟩ := ht.keep (Later.chg hW)
  have hcell := Later.cell hW hb
  let Q : World → Prop := fun W => W.cell? ⟨cb, 0, none⟩ = some (.func (.func c) #[] #[]) ∧ W.cell? ⟨xb, 0, none⟩ = some (.int .i64 x.1) ∧ W.cell? ⟨xb, 1, none⟩ = some (.int .i64 x.2)
  have hq0 : Q W := ⟨Later.cell hW h0', Later.cell hW h1', Later.cell hW h2'⟩
  have hql : ∀ A B, Q A → Later A B → Q B := fun A B h k => ⟨k.cell h.1, k.cell h.2.1, k.cell h.2.2⟩
  have hqk : ∀ A B, Q A → Chg X A B → Q B := fun A B h k =>
    have e : ∀ b o v, ¬ X b → A.cell? ⟨b, o, none⟩ = some v → B.cell? ⟨b, o, none⟩ = some v := fun b o v hb hv => (World.cell?_of_block (w := A) (a := ⟨b, o, none⟩) (k.block b (cell_lt hv) hb)).trans hv
    ⟨e _ _ _ hcX h.1, e _ _ _ hxX h.2.1, e _ _ _ hxX h.2.2⟩
  have hwk := tree_walk l (T.from_ fun y => decide (f y x < 0)).length (Q := Q) (cap := #[.pointer (some ⟨cb, 0, none⟩), .pointer (some ⟨xb, 0, none⟩)]) hql hqk hX (fun y W h => skip_from hc x cb xb y W h.1 h.2.1 h.2.2) enters65 (abides_later hJ) (abides_later hJx)
    (fun m pre x W1 hj hl => YieldAt.anyDepth rfl m (hY pre x W1 hj hl)) T (n - 1) p [] W hT hq0 h0 (by simp)
  show CallsIn FW n Try.prog 64 #[.func (.yield l) #[] #[], .pointer (some ⟨bt, 0, none⟩), .pointer (some ⟨cb, 0, none⟩), .pointer (some ⟨xb, 0, none⟩)] W _
  clear_value Q
  clear hql hqk hq0
  refine callsIn_of_wp Try.func64 rfl trivial ?_ rfl
  simp only [Try.ntmps64, List.size_toArray, List.length_cons, List.length_nil, Nat.reduceAdd, Nat.reduceSub, Array.replicate_succ, Array.replicate_zero, List.push_toArray, List.append_toArray, List.nil_append, List.cons_append]
  have h58 : FW.fn 58 := trivial
  gi_wp2_with ((try refine ⟨fun h => (by cases h), ?_⟩); gi_at_call 58; refine hwk.mono ?_; clear hwk; rintro e W1 (⟨rfl, hJ1, _⟩ | ⟨rfl, q, hq, hx⟩))
  · go_end0
    exact ⟨⟨_, rfl⟩, .inl ⟨_, rfl, by simpa using hJ1⟩⟩
  · go_end0
    exact ⟨⟨_, rfl⟩, .inr ⟨q, hq, by simpa using hx⟩⟩
end Go.Proofs.Yteledidnhjioaaa.Sh
namespace Go.Proofs.Yteledidnhjioaaa.Sh
open Go.RowKit Go.Lib Go.Proofs Go.Shelf
set_option linter.unusedVariables false
set_option linter.unusedSimpArgs false
/-- what All hands out -/
structure AllAt (X : Nat → Prop) (W : World) (bt : Nat) (T : Tr (Int × Int)) : Prop where
  tree : ∃ p, W.cell? ⟨bt, 0, none⟩ = some (.pointer p) ∧ Tree X W p T
abbrev allV (bt : Nat) : Value := .func (.func 57) #[] #[.pointer (some ⟨bt, 0, none⟩)]
theorem all_any {X : Nat → Prop} {c : Nat} {w : World} {sb : Nat} {T : Tr (Int × Int)} (h : Shf X w sb c T) :
    Calls Try.prog 19 #[.pointer (some ⟨sb, 0, none⟩)] w fun e w' => e = .returned (allV w.heap.size) ∧ Later w w' ∧ AllAt X w' w.heap.size T := by
  obtain ⟨p, hs, ht⟩ := h
  have hcs := hs.cells
  have hla : Later w (w.alloc (.cells #[.pointer p] 89)) := (Later.refl w).alloc _
  have hcl : (w.alloc (.cells #[.pointer p] 89)).cell? ⟨w.heap.size, 0, none⟩ = some (.pointer p) := by rw [World.cell?_alloc_new]; rfl
  have htr := ht.keep hla.chg
  clear hs ht
  go_enter Try.func19, Try.ntmps19
  go_wp2
  go_ret
  exact ⟨rfl, hla, ⟨p, hcl, htr⟩⟩
/-- what From hands out -/
structure FromAt (X : Nat → Prop) (W : World) (c bt cb xb : Nat) (x : Int × Int) (T : Tr (Int × Int)) : Prop where
  tree : ∃ p, W.cell? ⟨bt, 0, none⟩ = some (.pointer p) ∧ Tree X W p T
  cmp : W.cell? ⟨cb, 0, none⟩ = some (.func (.func c) #[] #[])
  x0 : W.cell? ⟨xb, 0, none⟩ = some (.int .i64 x.1)
  x1 : W.cell? ⟨xb, 1, none⟩ = some (.int .i64 x.2)
abbrev fromV (bt cb xb : Nat) : Value := .func (.func 64) #[] #[.pointer (some ⟨bt, 0, none⟩), .pointer (some ⟨cb, 0, none⟩), .pointer (some ⟨xb, 0, none⟩)]
def fromPost (X : Nat → Prop) (c : Nat) (x : Int × Int) (T : Tr (Int × Int)) (w : World) (e : Ending) (w' : World) : Prop :=
  ∃ bt cb xb, e = .returned (fromV bt cb xb) ∧ w.heap.size ≤ bt ∧ w.heap.size ≤ cb ∧ w.heap.size ≤ xb ∧ Later w w' ∧ FromAt X w' c bt cb xb x T
theorem three_from (w : World) (x y u v : Value) (t t' : TypeId) :
    ((((w.alloc (.cells #[x, y] 27)).alloc (.cells #[u] t)).alloc (.cells #[v] t')).drew.cell? ⟨w.heap.size, 0, none⟩ = some x) ∧ ((((w.alloc (.cells #[x, y] 27)).alloc (.cells #[u] t)).alloc (.cells #[v] t')).drew.cell? ⟨w.heap.size, 1, none⟩ = some y) ∧
    ((((w.alloc (.cells #[x, y] 27)).alloc (.cells #[u] t)).alloc (.cells #[v] t')).drew.cell? ⟨w.heap.size + 1, 0, none⟩ = some u) ∧ ((((w.alloc (.cells #[x, y] 27)).alloc (.cells #[u] t)).alloc (.cells #[v] t')).drew.cell? ⟨w.heap.size + 1 + 1, 0, none⟩ = some v) := by
  have h1 := two_new w x y 27
  have h2 : ((w.alloc (.cells #[x, y] 27)).alloc (.cells #[u] t)).cell? ⟨w.heap.size + 1, 0, none⟩ = some u := by
    have := World.cell?_alloc_new (w.alloc (.cells #[x, y] 27)) #[u] t 0
    rw [World.size_alloc] at this
    exact this
  have h3 : (((w.alloc (.cells #[x, y] 27)).alloc (.cells #[u] t)).alloc (.cells #[v] t')).cell? ⟨w.heap.size + 1 + 1, 0, none⟩ = some v := by
    have := World.cell?_alloc_new ((w.alloc (.cells #[x, y] 27)).alloc (.cells #[u] t)) #[v] t' 0
    rw [World.size_alloc, World.size_alloc] at this
    exact this
  have l1 : Later (w.alloc (.cells #[x, y] 27)) (((w.alloc (.cells #[x, y] 27)).alloc (.cells #[u] t)).alloc (.cells #[v] t')).drew := (((Later.refl _).alloc _).alloc _).drew
  have l2 : Later ((w.alloc (.cells #[x, y] 27)).alloc (.cells #[u] t)) (((w.alloc (.cells #[x, y] 27)).alloc (.cells #[u] t)).alloc (.cells #[v] t')).drew := ((Later.refl _).alloc _).drew
  exact ⟨l1.cell h1.1, l1.cell h1.2, l2.cell h2, h3⟩
set_option maxRecDepth 100000 in
set_option maxHeartbeats 4000000 in
theorem from_any {X : Nat → Prop} {c : Nat} (x : Int × Int) {w : World} {sb : Nat} {T : Tr (Int × Int)} (h : Shf X w sb c T) :
    Calls Try.prog 28 #[.pointer (some ⟨sb, 0, none⟩), .agg #[.int .i64 x.1, .int .i64 x.2]] w (fromPost X c x T w) := by
  obtain ⟨p, hs, ht⟩ := h
  have hB : Later w (w.alloc (.cells #[.int .i64 x.1, .int .i64 x.2] 27)) := Later.two
  have hxx := two_new w (.int .i64 x.1) (.int .i64 x.2) 27
  have hcs := (hs.later hB).cells
  have hcs2 := fun o => ((hs.later hB).later ((Later.refl _).alloc o)).cells
  have hcs3 := fun o o' => (((hs.later hB).later ((Later.refl _).alloc o)).later ((Later.refl _).alloc o')).cells
  go_enter Try.func28, Try.ntmps28
  go_wp2
  go_region
  all_goals go_wp2
  all_goals
    go_ret
    first
      | (have hh := three_from w (.int .i64 x.1) (.int .i64 x.2) (.func (.func c) #[] #[]) (.pointer p) 54 89
         have hl : Later w ((((w.alloc (.cells #[.int .i64 x.1, .int .i64 x.2] 27)).alloc (.cells #[.func (.func c) #[] #[]] 54)).alloc (.cells #[.pointer p] 89)).drew) := ((Later.two.alloc _).alloc _).drew
         exact ⟨w.heap.size + 1 + 1, w.heap.size + 1, w.heap.size, rfl, by omega, by omega, Nat.le_refl _, hl, ⟨p, hh.2.2.2, ht.keep hl.chg⟩, hh.2.2.1, hh.1, hh.2.1⟩)
      | (have hh := three_from w (.int .i64 x.1) (.int .i64 x.2) (.pointer p) (.func (.func c) #[] #[]) 89 54
         have hl : Later w ((((w.alloc (.cells #[.int .i64 x.1, .int .i64 x.2] 27)).alloc (.cells #[.pointer p] 89)).alloc (.cells #[.func (.func c) #[] #[]] 54)).drew) := ((Later.two.alloc _).alloc _).drew
         exact ⟨w.heap.size + 1, w.heap.size + 1 + 1, w.heap.size, rfl, by omega, by omega, Nat.le_refl _, hl, ⟨p, hh.2.2.1, ht.keep hl.chg⟩, hh.2.2.2, hh.1, hh.2.1⟩)
end Go.Proofs.Yteledidnhjioaaa.Sh
