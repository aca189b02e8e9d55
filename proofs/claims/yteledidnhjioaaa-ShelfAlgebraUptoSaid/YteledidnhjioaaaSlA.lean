import Derived.Test.YteledidnhjioaaaSkJ
namespace Go.Proofs.Yteledidnhjioaaa.Sh
open Go.RowKit Go.Lib Go.Proofs Go.Shelf
set_option linter.unusedVariables false
set_option linter.unusedSimpArgs false
attribute [local go_sem] Oper.semAt_some
/-! ### Shelves, comparisons and sequences that aren't there -/
theorem eqN29 (w : World) : (binOp .eql 29 .nilFunc .nilFunc).run Try.prog w = .ok (.bool true) w := by kernel_rfl
abbrev zp (i : Int) : Value := .agg #[.int .i64 i, .int .i64 0]
theorem add_nil (i : Int) (w : World) : Calls Try.prog 22 #[.pointer none, zp i] w fun e V => e = .returned (.bool false) ∧ Later w V := by
  go_enter Try.func22, Try.ntmps22
  go_wp2
  go_ret
  exact ⟨rfl, by repeat (first | exact Later.refl _ | refine Later.alloc ?_ _ | refine Later.drew ?_)⟩
theorem put_nil (i : Int) (w : World) : Calls Try.prog 23 #[.pointer none, zp i] w fun e V => e = .returned (.bool false) ∧ Later w V := by
  go_enter Try.func23, Try.ntmps23
  go_wp2
  go_ret
  exact ⟨rfl, by repeat (first | exact Later.refl _ | refine Later.alloc ?_ _ | refine Later.drew ?_)⟩
theorem remove_nil (i : Int) (w : World) : Calls Try.prog 24 #[.pointer none, zp i] w fun e V => e = .returned (.bool false) ∧ Later w V := by
  go_enter Try.func24, Try.ntmps24
  go_wp2
  go_ret
  exact ⟨rfl, by repeat (first | exact Later.refl _ | refine Later.alloc ?_ _ | refine Later.drew ?_)⟩
theorem rank_nil (i : Int) (w : World) : Calls Try.prog 34 #[.pointer none, zp i] w fun e V => e = .returned (.int .i64 0) ∧ Later w V := by
  go_enter Try.func34, Try.ntmps34
  go_wp2
  go_ret
  exact ⟨rfl, by repeat (first | exact Later.refl _ | refine Later.alloc ?_ _ | refine Later.drew ?_)⟩
theorem freeze_nil (w : World) : Calls Try.prog 20 #[.pointer none] w fun e V => e = .returned (.pointer none) ∧ Later w V := by
  go_enter Try.func20, Try.ntmps20
  go_wp2
  go_ret
  exact ⟨rfl, by repeat (first | exact Later.refl _ | refine Later.alloc ?_ _ | refine Later.drew ?_)⟩
theorem all_nil (w : World) : Calls Try.prog 19 #[.pointer none] w fun e V => e = .returned (.func (.func 56) #[] #[]) ∧ Later w V := by
  go_enter Try.func19, Try.ntmps19
  go_wp2
  go_ret
  exact ⟨rfl, by repeat (first | exact Later.refl _ | refine Later.alloc ?_ _ | refine Later.drew ?_)⟩
theorem from_nil (i : Int) (w : World) : Calls Try.prog 28 #[.pointer none, zp i] w fun e V => e = .returned (.func (.func 63) #[] #[]) ∧ Later w V := by
  go_enter Try.func28, Try.ntmps28
  go_wp2
  go_ret
  exact ⟨rfl, by repeat (first | exact Later.refl _ | refine Later.alloc ?_ _ | refine Later.drew ?_)⟩
theorem gather_nil (i : Int) (w : World) : Calls Try.prog 12 #[.nilFunc, .int .i64 i] w fun e V => e = .returned (.tuple #[.slice none 0 0, .bool false]) ∧ Later w V := by
  have e1 := eqN29
  go_enter Try.func12, Try.ntmps12
  go_wp2
  refine bodyPost_ret (v := .tuple #[.slice none 0 0, .bool false]) (by simp [results, Try.results12, go_sem]) rfl ?_
  exact ⟨rfl, by repeat (first | exact Later.refl _ | refine Later.alloc ?_ _ | refine Later.drew ?_)⟩
theorem find_nil (i : Int) (w : World) : Calls Try.prog 32 #[.pointer none, zp i] w fun e V => e = .returned (.tuple #[.agg #[.int .i64 0, .int .i64 0], .bool false]) ∧ Later w V := by
  go_enter Try.func32, Try.ntmps32
  go_wp2
  refine bodyPost_ret (v := .tuple #[.agg #[.int .i64 0, .int .i64 0], .bool false]) (by simp [results, Try.results32, go_sem]) rfl ?_
  exact ⟨rfl, by repeat (first | exact Later.refl _ | refine Later.alloc ?_ _ | refine Later.drew ?_)⟩
theorem nth_nil (i : Int) (w : World) : Calls Try.prog 33 #[.pointer none, .int .i64 i] w fun e V => e = .returned (.tuple #[.agg #[.int .i64 0, .int .i64 0], .bool false]) ∧ Later w V := by
  go_enter Try.func33, Try.ntmps33
  go_wp2
  all_goals
    refine bodyPost_ret (v := .tuple #[.agg #[.int .i64 0, .int .i64 0], .bool false]) (by simp [results, Try.results33, go_sem]) rfl ?_
    exact ⟨rfl, by repeat (first | exact Later.refl _ | refine Later.alloc ?_ _ | refine Later.drew ?_)⟩
end Go.Proofs.Yteledidnhjioaaa.Sh
namespace Go.Proofs.Yteledidnhjioaaa.Sh
open Go.RowKit Go.Lib Go.Proofs Go.Shelf
set_option linter.unusedVariables false
set_option linter.unusedSimpArgs false
attribute [local go_sem] Oper.semAt_some
/-- a sequence that ends at once -/
theorem empty_seq {g : Nat} {lb : Array Value} {X Z : Nat → Prop} {K : World → Prop} {w0 : World} (hcall : ∀ (l : Nat) (W : World), Later w0 W → Calls Try.prog g (#[.func (.yield l) #[] #[]] ++ lb) W fun e V => (∃ v, e = .returned v) ∧ Later W V) (hK : ∀ V, Later w0 V → K V) : SeqZ X Z g lb [] (fun _ => K) w0 := by
  intro n l J Jx W hW hJ hJx hJz hJxz hY hJ0
  refine callsIn_wide.2 ((hcall l W hW).mono ?_)
  rintro e V ⟨hv, l1⟩
  exact ⟨hv, W.heap.size, Nat.le_refl _, .inl ⟨hJ0 _ V l1.chg (Nat.le_refl _) l1.size, hK V (hW.next l1)⟩⟩
theorem enters56 : ∀ args w, (callFunc 56 args).run Try.prog w = .ok (.enter 56 args) w := fun args w => enters_of Try.func56 (by kernel_rfl) rfl args w
theorem enters63 : ∀ args w, (callFunc 63 args).run Try.prog w = .ok (.enter 63 args) w := fun args w => enters_of Try.func63 (by kernel_rfl) rfl args w
theorem call56 (l : Nat) (W : World) : Calls Try.prog 56 (#[.func (.yield l) #[] #[]] ++ #[]) W fun e V => (∃ v, e = .returned v) ∧ Later W V := by
  show Calls Try.prog 56 #[.func (.yield l) #[] #[]] W _
  go_enter Try.func56, Try.ntmps56
  go_wp2
  go_end0
  exact ⟨⟨_, rfl⟩, Later.refl _⟩
theorem call63 (l : Nat) (W : World) : Calls Try.prog 63 (#[.func (.yield l) #[] #[]] ++ #[]) W fun e V => (∃ v, e = .returned v) ∧ Later W V := by
  show Calls Try.prog 63 #[.func (.yield l) #[] #[]] W _
  go_enter Try.func63, Try.ntmps63
  go_wp2
  go_end0
  exact ⟨⟨_, rfl⟩, Later.refl _⟩
theorem call78 {BC BL : Nat} {w0 : World} (bC : Boxed w0 BC 54 .nilFunc) (l : Nat) (W : World) (hW : Later w0 W) : Calls Try.prog 78 (#[.func (.yield l) #[] #[]] ++ #[.pointer (some ⟨BC, 0, none⟩), .pointer (some ⟨BL, 0, none⟩)]) W fun e V => (∃ v, e = .returned v) ∧ Later W V := by
  show Calls Try.prog 78 #[.func (.yield l) #[] #[], .pointer (some ⟨BC, 0, none⟩), .pointer (some ⟨BL, 0, none⟩)] W _
  have la : Later W (W.alloc (.cells #[.func (.yield l) #[] #[]] 45)) := (Later.refl W).alloc _
  have cC := (boxed_later bC (hW.next la)).cell
  have e1 := eqN54
  go_enter Try.func78, Try.ntmps78
  go_wp2
  refine bodyPost_ret (v := .tuple #[]) (by simp [results, Try.results78, go_sem]) rfl ?_
  exact ⟨⟨_, rfl⟩, la⟩
theorem call89 {BC BP BQ BF : Nat} {w0 : World} (bC : Boxed w0 BC 54 .nilFunc) (l : Nat) (W : World) (hW : Later w0 W) : Calls Try.prog 89 (#[.func (.yield l) #[] #[]] ++ #[.pointer (some ⟨BC, 0, none⟩), .pointer (some ⟨BP, 0, none⟩), .pointer (some ⟨BQ, 0, none⟩), .pointer (some ⟨BF, 0, none⟩)]) W fun e V => (∃ v, e = .returned v) ∧ Later W V := by
  show Calls Try.prog 89 #[.func (.yield l) #[] #[], .pointer (some ⟨BC, 0, none⟩), .pointer (some ⟨BP, 0, none⟩), .pointer (some ⟨BQ, 0, none⟩), .pointer (some ⟨BF, 0, none⟩)] W _
  have la : Later W (W.alloc (.cells #[.func (.yield l) #[] #[]] 45)) := (Later.refl W).alloc _
  have cC := (boxed_later bC (hW.next la)).cell
  have e1 := eqN54
  go_enter Try.func89, Try.ntmps89
  go_wp2
  refine bodyPost_ret (v := .tuple #[]) (by simp [results, Try.results89, go_sem]) rfl ?_
  exact ⟨⟨_, rfl⟩, la⟩
/-! ### Meet, Without, Join of what may not be there -/
def Fv (v : Value) : Prop := v = .nilFunc ∨ ∃ g lb, v = .func (.func g) #[] lb
theorem split_vals {w : World} {cv pv qv : Value} {both : Bool} (hc : Fv cv) (hp : Fv pv) (hq : Fv qv) :
    Calls Try.prog 82 #[cv, pv, qv, .bool both] w fun e V => e = .returned (splitV w.heap.size) ∧ Later w V ∧ SplitAt V w.heap.size cv pv qv both := by
  have hs := split_new w cv pv qv both
  have hl : Later w ((((w.alloc (.cells #[cv] 54)).alloc (.cells #[pv] 29)).alloc (.cells #[qv] 29)).alloc (.cells #[.bool both] 4)) := ((((Later.refl w).alloc _).alloc _).alloc _).alloc _
  rcases hc with rfl | ⟨c, lc, rfl⟩ <;> rcases hp with rfl | ⟨gp, lp, rfl⟩ <;> rcases hq with rfl | ⟨gq, lq, rfl⟩
  all_goals
    go_enter Try.func82, Try.ntmps82
    go_wp2_with fail
    go_ret
    exact ⟨by simp, hl, hs⟩
theorem meet_vals {w : World} {cv pv qv : Value} (hc : Fv cv) (hp : Fv pv) (hq : Fv qv) :
    Calls Try.prog 50 #[cv, pv, qv] w fun e V => e = .returned (splitV w.heap.size) ∧ Later w V ∧ SplitAt V w.heap.size cv pv qv true := by
  have h := split_vals (w := w) (both := true) hc hp hq
  rcases hc with rfl | ⟨c, lc, rfl⟩ <;> rcases hp with rfl | ⟨gp, lp, rfl⟩ <;> rcases hq with rfl | ⟨gq, lq, rfl⟩
  all_goals
    go_enter Try.func50, Try.ntmps50
    go_wp2_with fail
    go_at_call 82; refine h.mono ?_; rintro e V ⟨rfl, h1, h2⟩
    go_wp2_with fail
    go_ret
    exact ⟨by simp, h1, h2⟩
theorem without_vals {w : World} {cv pv qv : Value} (hc : Fv cv) (hp : Fv pv) (hq : Fv qv) :
    Calls Try.prog 51 #[cv, pv, qv] w fun e V => e = .returned (splitV w.heap.size) ∧ Later w V ∧ SplitAt V w.heap.size cv pv qv false := by
  have h := split_vals (w := w) (both := false) hc hp hq
  rcases hc with rfl | ⟨c, lc, rfl⟩ <;> rcases hp with rfl | ⟨gp, lp, rfl⟩ <;> rcases hq with rfl | ⟨gq, lq, rfl⟩
  all_goals
    go_enter Try.func51, Try.ntmps51
    go_wp2_with fail
    go_at_call 82; refine h.mono ?_; rintro e V ⟨rfl, h1, h2⟩
    go_wp2_with fail
    go_ret
    exact ⟨by simp, h1, h2⟩
set_option maxRecDepth 100000 in
theorem joins_none {v0 : Value} {w : World} {b0 cap : Nat} (h0 : w.cell? ⟨b0, 0, none⟩ = some v0) (h1 : v0.oneCell' = true) :
    Calls Try.prog 49 #[.nilFunc, .slice (some ⟨b0, 0, none⟩) 1 cap] w fun e V => e = .returned (joinV w.heap.size) ∧ Later w V ∧ Boxed V w.heap.size 54 .nilFunc := by
  obtain ⟨i0, hi, hz1, hz2, hz3⟩ := info_parts info29
  have bC := (Boxed.new w 54 .nilFunc).alloc (.cells #[.slice (some ⟨b0, 0, none⟩) 1 cap] 110)
  have bL := Boxed.new (w.alloc (.cells #[.nilFunc] 54)) 110 (.slice (some ⟨b0, 0, none⟩) 1 cap)
  rw [World.size_alloc] at bL
  have hl : Later w ((w.alloc (.cells #[.nilFunc] 54)).alloc (.cells #[.slice (some ⟨b0, 0, none⟩) 1 cap] 110)) := ((Later.refl w).alloc _).alloc _
  have hvs2 : ∀ j u, [v0][j]? = some u → ((w.alloc (.cells #[.nilFunc] 54)).alloc (.cells #[.slice (some ⟨b0, 0, none⟩) 1 cap] 110)).cell? ((⟨b0, 0, none⟩ : Addr).add j) = some u := fun j u h => by
    match j, h with
    | 0, h => cases h; rw [addr_plus]; exact hl.cell h0
    | j + 1, h => simp at h
  go_enter Try.func49, Try.ntmps49
  go_wp2_with (at_builtin; refine wpList_append_own_wide (P := Try.prog) (w := _) rfl (.const (.slice none 0 0)) _ 110 rfl w.heap.size 29 i0 .nilFunc 1 8 underlying110 hi hz1 hz2 hz3 rfl (by decide) (.slice none 0 0) 0 [] rfl (World.ownsRow_nil ..) ⟨b0, 0, none⟩ 1 cap [v0] rfl (by simp) hvs2 (by simpa using h1) (by unfold maxLen; simp) (by simp) (by simp; omega) ?_; intro v' w' hown hgrow hnil; have hvv : ∃ g cp, v' = .slice (some ⟨g, 0, none⟩) (0 + 1) cp := row_form hown (by omega); obtain ⟨g, cp, rfl⟩ := hvv; have bL2 := bL.kept hgrow (fun e => by cases e); have bC2 := bC.kept hgrow (fun e => by cases e); have k1 := bL2.cell; have k2 := bL2.frozen)
  go_ret
  rw [Nat.zero_add] at *
  have cg : Later ((w.alloc (.cells #[.nilFunc] 54)).alloc (.cells #[.slice (some ⟨b0, 0, none⟩) 1 cap] 110)) w' := ⟨hgrow.os, hgrow.tape, hgrow.output, hgrow.size, fun k hk => hgrow.block k hk (fun e => by cases e)⟩
  have cs : Chg (only (w.heap.size + 1)) w' (w'.setCell ⟨w.heap.size + 1, 0, none⟩ (.slice (some ⟨g, 0, none⟩) 1 cp)) := Chg.set _ _ rfl
  exact ⟨by simp, Later.far (hl.next cg) (by omega) cs, bC2.other (by omega) _⟩
end Go.Proofs.Yteledidnhjioaaa.Sh
namespace Go.Proofs.Yteledidnhjioaaa.Sh
open Go.RowKit Go.Lib Go.Proofs Go.Shelf
set_option linter.unusedVariables false
set_option linter.unusedSimpArgs false
attribute [local go_sem] Oper.semAt_some
theorem joins_empty (w : World) : Calls Try.prog 49 #[.func (.func 45) #[] #[], .slice none 0 0] w fun e V => e = .returned (joinV w.heap.size) ∧ Later w V ∧ Boxed V w.heap.size 54 (.func (.func 45) #[] #[]) ∧ Boxed V (w.heap.size + 1) 110 (.slice none 0 0) := by
  have bC := (Boxed.new w 54 (.func (.func 45) #[] #[])).alloc (.cells #[.slice none 0 0] 110)
  have bL := Boxed.new (w.alloc (.cells #[.func (.func 45) #[] #[]] 54)) 110 (.slice none 0 0)
  rw [World.size_alloc] at bL
  have hl : Later w ((w.alloc (.cells #[.func (.func 45) #[] #[]] 54)).alloc (.cells #[.slice none 0 0] 110)) := ((Later.refl w).alloc _).alloc _
  go_enter Try.func49, Try.ntmps49
  go_wp2_with fail
  go_ret
  exact ⟨rfl, hl, bC, bL⟩
/-- one list that counts in a block of its own -/
def Ms (W8 : World) (SN n : Nat) (V : World) : Prop := (∃ c : Int, (0 ≤ c ∧ c ≤ 8796093022080 * (n : Int)) ∧ Seen V SN n n c) ∧ Chg (fun b => b = SN ∨ W8.heap.size ≤ b) W8 V
theorem Ms.lt {W8 V : World} {SN n : Nat} (h : Ms W8 SN n V) : SN < V.heap.size := by obtain ⟨⟨c, _, h⟩, _⟩ := h; exact h.lt
theorem Ms.chg {W8 : World} {SN n : Nat} {A V : World} {X : Nat → Prop} (h : Ms W8 SN n A) (c : Chg X A V) (hx : ∀ b, X b → W8.heap.size ≤ b) (hs : SN < W8.heap.size) : Ms W8 SN n V := by
  obtain ⟨⟨k, hk, h1⟩, h2⟩ := h
  exact ⟨⟨k, hk, h1.chg c (fun e => by have := hx _ e; omega)⟩, h2.trans (c.mono fun b hb => .inr (hx b hb))⟩
theorem Ms.later {W8 : World} {SN n : Nat} {A V : World} (h : Ms W8 SN n A) (l : Later A V) (hs : SN < W8.heap.size) : Ms W8 SN n V := h.chg (X := fun _ => False) l.chg (fun _ h => h.elim) hs
structure Lo (W8 : World) (SN BL BP : Nat) (l : List (Int × Int)) (A : Option Addr) (cap : Nat) : Prop where
  sl : SliceAt W8 A cap l
  bl : Boxed W8 BL 22 (.slice A l.length cap)
  bp : Boxed W8 BP 31 (.pointer (some ⟨SN, 0, none⟩))
  ne : ∀ f o, A = some ⟨f, o, none⟩ → l ≠ [] → f ≠ SN
  nb : BL ≠ SN ∧ BP ≠ SN
  hs : SN < W8.heap.size
  z : l.length ≤ 8796093022080
theorem seq_one {W8 : World} {SN BL BP cap n : Nat} {l : List (Int × Int)} {A : Option Addr} (h : Lo W8 SN BL BP l A cap) {V : World} (hV : Ms W8 SN n V) (hn : n ≤ 100) (X : Nat → Prop) (hX : ∀ b, X b → W8.heap.size ≤ b) :
    SeqW X (only SN) 55 #[.pointer (some ⟨BP, 0, none⟩), .pointer (some ⟨BL, 0, none⟩)] l (fun _ => Ms W8 SN (n + 1)) V := by
  obtain ⟨⟨c, hc, hs1⟩, hch⟩ := hV
  have hlL := h.bl.lt
  have hlP := h.bp.lt
  have hsl : SliceAt V A cap l := slice_keep h.sl hch (fun f o e h0 hx => hx.elim (fun hx => h.ne f o e h0 hx) (fun hx => by have := h.sl.block f o e h0; omega))
  have hq := list_seq (X := X) hsl (boxed_turn h.bl hch (fun e => e.elim h.nb.1 (fun e => by omega))) (boxed_turn h.bp hch (fun e => e.elim h.nb.2 (fun e => by omega))) hs1 (fun e => by have := hX _ e; omega) (fun e => by have := hX _ e; omega) (fun e => by have := hX _ e; have := h.hs; omega)
    (fun f o e h0 _ => ⟨fun hx => by have := hX _ hx; have := h.sl.block f o e h0; omega, h.ne f o e h0⟩) (by omega) (by omega) (by omega) (by have := h.z; omega)
  refine SeqW.keep hq (mg_keep hX hch.size) hch (fun k U hk hg hu => ⟨⟨c + k, ?_, hg⟩, hu⟩)
  have := h.z
  omega
def steps1 (W8 : World) (SN n : Nat) (a b : Nat) : Nat → World → Prop
  | 0 => Ms W8 SN n
  | 1 => Ms W8 SN (n + a)
  | _ => Ms W8 SN (n + a + b)
/-- Meet, Without of one list and one that isn't there -/
theorem split_first {W8 : World} {SN BL BP cap n B : Nat} {both : Bool} {l : List (Int × Int)} {A : Option Addr} (h : Lo W8 SN BL BP l A cap) {V : World} (hB : SplitAt V B (.func (.func 45) #[] #[]) (listV BP BL) .nilFunc both) (hb : W8.heap.size ≤ B) (hV : Ms W8 SN n V) (hn : n ≤ 100) :
    SeqZ (fresh V) (only SN) 89 #[.pointer (some ⟨B, 0, none⟩), .pointer (some ⟨B + 1, 0, none⟩), .pointer (some ⟨B + 1 + 1, 0, none⟩), .pointer (some ⟨B + 1 + 1 + 1, 0, none⟩)] (splitL both l []) (fun _ => Ms W8 SN (n + 1)) V := by
  obtain ⟨⟨⟨b0, b1⟩, b2⟩, b3⟩ := hB
  have l0 := b0.lt
  have l3 := b3.lt
  have hs := h.hs
  have hVs := hV.2.size
  refine splits_seq (c := 45) (BC := B) (BP := B + 1) (BQ := B + 1 + 1) (BF := B + 1 + 1 + 1) (both := both) (f := cmpR) (vp := listV BP BL) (vq := .nilFunc) (p := l) (q := []) (X := fresh V) (Z := only SN) (I := steps1 W8 SN n 1 0) (w0 := V)
    compR signR b0 b1 b2 b3 (fun e => by have : V.heap.size ≤ B := e; omega) (fun e => by have : B = SN := e; omega) (fun e => by have : V.heap.size ≤ B + 1 + 1 + 1 := e; omega) (fun e => by have : B + 1 + 1 + 1 = SN := e; omega)
    (fun b e => by have : b = SN := e; have := hV.lt; omega) (fun W hW => ?_) (fun i U V' hi c => ?_) hV h.z (Nat.zero_le _)
  · have hWs := hW.size
    have hX : ∀ b, upb W.heap.size b → W8.heap.size ≤ b := fun b e => by have : W.heap.size ≤ b := e; omega
    exact ⟨.inr ⟨55, _, rfl, enters55, fun U hU => (seq_one h hU hn _ hX).z⟩, .inl ⟨rfl, rfl, fun U hU => hU⟩⟩
  · have hx : ∀ b, (V.heap.size ≤ b ∨ fresh V b) → W8.heap.size ≤ b := fun b e => e.elim (fun e => by omega) (fun e => by have : V.heap.size ≤ b := e; omega)
    match i, hi with
    | 0, hi => exact Ms.chg hi c hx hs
    | 1, hi => exact Ms.chg hi c hx hs
    | i + 2, hi => exact Ms.chg hi c hx hs
theorem split_second {W8 : World} {SN BL BP cap n B : Nat} {both : Bool} {l : List (Int × Int)} {A : Option Addr} (h : Lo W8 SN BL BP l A cap) {V : World} (hB : SplitAt V B (.func (.func 45) #[] #[]) .nilFunc (listV BP BL) both) (hb : W8.heap.size ≤ B) (hV : Ms W8 SN n V) (hn : n ≤ 100) :
    SeqZ (fresh V) (only SN) 89 #[.pointer (some ⟨B, 0, none⟩), .pointer (some ⟨B + 1, 0, none⟩), .pointer (some ⟨B + 1 + 1, 0, none⟩), .pointer (some ⟨B + 1 + 1 + 1, 0, none⟩)] [] (fun _ => Ms W8 SN (n + 1)) V := by
  obtain ⟨⟨⟨b0, b1⟩, b2⟩, b3⟩ := hB
  have l0 := b0.lt
  have l3 := b3.lt
  have hs := h.hs
  have hVs := hV.2.size
  refine splits_seq (c := 45) (BC := B) (BP := B + 1) (BQ := B + 1 + 1) (BF := B + 1 + 1 + 1) (both := both) (f := cmpR) (vp := .nilFunc) (vq := listV BP BL) (p := []) (q := l) (X := fresh V) (Z := only SN) (I := steps1 W8 SN n 0 1) (w0 := V)
    compR signR b0 b1 b2 b3 (fun e => by have : V.heap.size ≤ B := e; omega) (fun e => by have : B = SN := e; omega) (fun e => by have : V.heap.size ≤ B + 1 + 1 + 1 := e; omega) (fun e => by have : B + 1 + 1 + 1 = SN := e; omega)
    (fun b e => by have : b = SN := e; have := hV.lt; omega) (fun W hW => ?_) (fun i U V' hi c => ?_) hV (Nat.zero_le _) h.z
  · have hWs := hW.size
    have hX : ∀ b, upb W.heap.size b → W8.heap.size ≤ b := fun b e => by have : W.heap.size ≤ b := e; omega
    exact ⟨.inl ⟨rfl, rfl, fun U hU => hU⟩, .inr ⟨55, _, rfl, enters55, fun U hU => (seq_one h hU hn _ hX).z⟩⟩
  · have hx : ∀ b, (V.heap.size ≤ b ∨ fresh V b) → W8.heap.size ≤ b := fun b e => e.elim (fun e => by omega) (fun e => by have : V.heap.size ≤ b := e; omega)
    match i, hi with
    | 0, hi => exact Ms.chg hi c hx hs
    | 1, hi => exact Ms.chg hi c hx hs
    | i + 2, hi => exact Ms.chg hi c hx hs
theorem gathered_s {W8 : World} {SN n n' g : Nat} {lb : Array Value} {xs : List (Int × Int)} {V : World} (m : Nat) (hs : SN < W8.heap.size) (hV : Ms W8 SN n V) (h : SeqZ (fresh V) (only SN) g lb xs (fun _ => Ms W8 SN n') V) (hg : ∀ args w, (callFunc g args).run Try.prog w = .ok (.enter g args) w) (hz : xs.length ≤ 8796093022200) :
    Calls Try.prog 18 #[.func (.func g) #[] lb, .int .i64 m] V fun e U => ∃ v, e = .returned v ∧ U.ownsRow V.heap.size 27 2 v (xs.take m).length (flat (xs.take m)) ∧ Ms W8 SN n' U := by
  have hVs := hV.2.size
  refine (gathered_z m h hg (fun b e => by have : b = SN := e; have := hV.lt; omega) (fun k A' V' hA c => Ms.chg hA c (fun b e => by have : V.heap.size ≤ b := e; omega) hs) hz).mono ?_
  rintro e U ⟨v, rfl, h1, _, k, hk⟩
  exact ⟨v, rfl, h1, hk⟩
/-- what ends at once, gathered -/
theorem gathered_none {g : Nat} {lb : Array Value} {w : World} (m : Nat) (hcall : ∀ (l : Nat) (W : World), Later w W → Calls Try.prog g (#[.func (.yield l) #[] #[]] ++ lb) W fun e V => (∃ v, e = .returned v) ∧ Later W V) (hg : ∀ args w, (callFunc g args).run Try.prog w = .ok (.enter g args) w) :
    Calls Try.prog 18 #[.func (.func g) #[] lb, .int .i64 m] w fun e V => (∃ A cp, e = .returned (.slice A 0 cp)) ∧ Later w V := by
  refine (gathered_z (G := fun _ _ => True) (Z := fun _ => False) m (empty_seq (X := fresh w) (K := fun _ => True) hcall (fun _ _ => trivial)) hg (fun b h => h.elim) (fun _ _ _ _ _ => trivial) (Nat.zero_le _)).mono ?_
  rintro e V ⟨v, rfl, h1, h2, _⟩
  obtain ⟨A, cp, rfl⟩ := row_any h1
  exact ⟨⟨A, cp, by simp⟩, Chg.below h2 (Nat.le_refl _) (fun b h => h.elim)⟩
theorem gathered_join0 {J0 J1 : Nat} {w : World} (m : Nat) (bC : Boxed w J0 54 (.func (.func 45) #[] #[])) (bL : Boxed w J1 110 (.slice none 0 0)) :
    Calls Try.prog 18 #[.func (.func 78) #[] #[.pointer (some ⟨J0, 0, none⟩), .pointer (some ⟨J1, 0, none⟩)], .int .i64 m] w fun e V => (∃ A cp, e = .returned (.slice A 0 cp)) ∧ Later w V := by
  have hq := joins_seq (c := 45) (N := 0) (BC := J0) (BL := J1) (cap := 0) (f := cmpR) (ss := []) (X := fresh w) (Z := fun _ => False) (I := fun _ _ => True) (w0 := w) (A := none) compR signR bC bL (fun i s h => by simp at h) (Nat.le_refl _) (by simp) (fun e => by have := bC.lt; have : w.heap.size ≤ J0 := e; omega) (fun e => e) (fun b e => e.elim) (fun W hW i s h => by simp at h) (fun _ _ _ _ _ => trivial) trivial (fun i s h => by simp at h) (by simp) (by simp)
  refine (gathered_z (G := fun _ _ => True) (Z := fun _ => False) m hq enters78 (fun b h => h.elim) (fun _ _ _ _ _ => trivial) (Nat.zero_le _)).mono ?_
  rintro e V ⟨v, rfl, h1, h2, _⟩
  obtain ⟨A, cp, rfl⟩ := row_any h1
  exact ⟨⟨A, cp, by simp [mergeN]⟩, Chg.below h2 (Nat.le_refl _) (fun b h => h.elim)⟩
theorem split_none (l : List (Int × Int)) : splitL true l [] = [] := by
  induction l with
  | nil => rfl
  | cons x r ih => simp [splitL, below, likeH, ih]
theorem split_all (l : List (Int × Int)) : splitL false l [] = l := by
  induction l with
  | nil => rfl
  | cons x r ih => simp [splitL, below, likeH, ih]
end Go.Proofs.Yteledidnhjioaaa.Sh
