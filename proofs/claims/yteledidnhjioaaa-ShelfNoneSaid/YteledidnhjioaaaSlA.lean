import Derived.Test.YteledidnhjioaaaSkJ
namespace Go.Proofs.Yteledidnhjioaaa.Sh
open Go.RowKit Go.Lib Go.Proofs Go.Shelf
set_option linter.unusedVariables false
set_option linter.unusedSimpArgs false
attribute [local go_sem] Oper.semAt_some
/-! ### Shelves, comparisons and sequences that aren't there -/
theorem eqN29 (w : World) : (binOp .eql 29 .nilFunc .nilFunc).run Try.prog w = .ok (.bool true) w := by kernel_rfl
abbrev zp (i : Int) : Value := .agg #[.int .i64 i, .int .i64 0]
theorem add_nil (i : Int) (w : World) : Calls Try.prog 22 #[.pointer none, zp i] w fun e V => e = .returned (.bool false) ∧ Later w V := by
  go_enter Try.func22, Try.ntmps22
  go_wp2
  go_ret
  exact ⟨rfl, by repeat (first | exact Later.refl _ | refine Later.alloc ?_ _ | refine Later.drew ?_)⟩
theorem put_nil (i : Int) (w : World) : Calls Try.prog 23 #[.pointer none, zp i] w fun e V => e = .returned (.bool false) ∧ Later w V := by
  go_enter Try.func23, Try.ntmps23
  go_wp2
  go_ret
  exact ⟨rfl, by repeat (first | exact Later.refl _ | refine Later.alloc ?_ _ | refine Later.drew ?_)⟩
theorem remove_nil (i : Int) (w : World) : Calls Try.prog 24 #[.pointer none, zp i] w fun e V => e = .returned (.bool false) ∧ Later w V := by
  go_enter Try.func24, Try.ntmps24
  go_wp2
  go_ret
  exact ⟨rfl, by repeat (first | exact Later.refl _ | refine Later.alloc ?_ _ | refine Later.drew ?_)⟩
theorem rank_nil (i : Int) (w : World) : Calls Try.prog 34 #[.pointer none, zp i] w fun e V => e = .returned (.int .i64 0) ∧ Later w V := by
  go_enter Try.func34, Try.ntmps34
  go_wp2
  go_ret
  exact ⟨rfl, by repeat (first | exact Later.refl _ | refine Later.alloc ?_ _ | refine Later.drew ?_)⟩
theorem freeze_nil (w : World) : Calls Try.prog 20 #[.pointer none] w fun e V => e = .returned (.pointer none) ∧ Later w V := by
  go_enter Try.func20, Try.ntmps20
  go_wp2
  go_ret
  exact ⟨rfl, by repeat (first | exact Later.refl _ | refine Later.alloc ?_ _ | refine Later.drew ?_)⟩
theorem all_nil (w : World) : Calls Try.prog 19 #[.pointer none] w fun e V => e = .returned (.func (.func 56) #[] #[]) ∧ Later w V := by
  go_enter Try.func19, Try.ntmps19
  go_wp2
  go_ret
  exact ⟨rfl, by repeat (first | exact Later.refl _ | refine Later.alloc ?_ _ | refine Later.drew ?_)⟩
theorem from_nil (i : Int) (w : World) : Calls Try.prog 28 #[.pointer none, zp i] w fun e V => e = .returned (.func (.func 63) #[] #[]) ∧ Later w V := by
  go_enter Try.func28, Try.ntmps28
  go_wp2
  go_ret
  exact ⟨rfl, by repeat (first | exact Later.refl _ | refine Later.alloc ?_ _ | refine Later.drew ?_)⟩
theorem gather_nil (i : Int) (w : World) : Calls Try.prog 12 #[.nilFunc, .int .i64 i] w fun e V => e = .returned (.tuple #[.slice none 0 0, .bool false]) ∧ Later w V := by
  have e1 := eqN29
  go_enter Try.func12, Try.ntmps12
  go_wp2
  refine bodyPost_ret (v := .tuple #[.slice none 0 0, .bool false]) (by simp [results, Try.results12, go_sem]) rfl ?_
  exact ⟨rfl, by repeat (first | exact Later.refl _ | refine Later.alloc ?_ _ | refine Later.drew ?_)⟩
theorem find_nil (i : Int) (w : World) : Calls Try.prog 32 #[.pointer none, zp i] w fun e V => e = .returned (.tuple #[.agg #[.int .i64 0, .int .i64 0], .bool false]) ∧ Later w V := by
  go_enter Try.func32, Try.ntmps32
  go_wp2
  refine bodyPost_ret (v := .tuple #[.agg #[.int .i64 0, .int .i64 0], .bool false]) (by simp [results, Try.results32, go_sem]) rfl ?_
  exact ⟨rfl, by repeat (first | exact Later.refl _ | refine Later.alloc ?_ _ | refine Later.drew ?_)⟩
theorem nth_nil (i : Int) (w : World) : Calls Try.prog 33 #[.pointer none, .int .i64 i] w fun e V => e = .returned (.tuple #[.agg #[.int .i64 0, .int .i64 0], .bool false]) ∧ Later w V := by
  go_enter Try.func33, Try.ntmps33
  go_wp2
  all_goals
    refine bodyPost_ret (v := .tuple #[.agg #[.int .i64 0, .int .i64 0], .bool false]) (by simp [results, Try.results33, go_sem]) rfl ?_
    exact ⟨rfl, by repeat (first | exact Later.refl _ | refine Later.alloc ?_ _ | refine Later.drew ?_)⟩
end Go.Proofs.Yteledidnhjioaaa.Sh
namespace Go.Proofs.Yteledidnhjioaaa.Sh
open Go.RowKit Go.Lib Go.Proofs Go.Shelf
set_option linter.unusedVariables false
set_option linter.unusedSimpArgs false
attribute [local go_sem] Oper.semAt_some
/-- a sequence that ends at once -/
theorem empty_seq {g : Nat} {lb : Array Value} {X Z : Nat → Prop} {K : World → Prop} {w0 : World} (hcall : ∀ (l : Nat) (W : World), Later w0 W → Calls Try.prog g (#[.func (.yield l) #[] #[]] ++ lb) W fun e V => (∃ v, e = .returned v) ∧ Later W V) (hK : ∀ V, Later w0 V → K V) : SeqZ X Z g lb [] (fun _ => K) w0 := by
  intro n l J Jx W hW hJ hJx hJz hJxz hY hJ0
  refine callsIn_wide.2 ((hcall l W hW).mono ?_)
  rintro e V ⟨hv, l1⟩
  exact ⟨hv, W.heap.size, Nat.le_refl _, .inl ⟨hJ0 _ V l1.chg (Nat.le_refl _) l1.size, hK V (hW.next l1)⟩⟩
theorem enters56 : ∀ args w, (callFunc 56 args).run Try.prog w = .ok (.enter 56 args) w := fun args w => enters_of Try.func56 (by kernel_rfl) rfl args w
theorem enters63 : ∀ args w, (callFunc 63 args).run Try.prog w = .ok (.enter 63 args) w := fun args w => enters_of Try.func63 (by kernel_rfl) rfl args w
theorem call56 (l : Nat) (W : World) : Calls Try.prog 56 (#[.func (.yield l) #[] #[]] ++ #[]) W fun e V => (∃ v, e = .returned v) ∧ Later W V := by
  show Calls Try.prog 56 #[.func (.yield l) #[] #[]] W _
  go_enter Try.func56, Try.ntmps56
  go_wp2
  go_end0
  exact ⟨⟨_, rfl⟩, Later.refl _⟩
theorem call63 (l : Nat) (W : World) : Calls Try.prog 63 (#[.func (.yield l) #[] #[]] ++ #[]) W fun e V => (∃ v, e = .returned v) ∧ Later W V := by
  show Calls Try.prog 63 #[.func (.yield l) #[] #[]] W _
  go_enter Try.func63, Try.ntmps63
  go_wp2
  go_end0
  exact ⟨⟨_, rfl⟩, Later.refl _⟩
theorem call78 {BC BL : Nat} {w0 : World} (bC : Boxed w0 BC 54 .nilFunc) (l : Nat) (W : World) (hW : Later w0 W) : Calls Try.prog 78 (#[.func (.yield l) #[] #[]] ++ #[.pointer (some ⟨BC, 0, none⟩), .pointer (some ⟨BL, 0, none⟩)]) W fun e V => (∃ v, e = .returned v) ∧ Later W V := by
  show Calls Try.prog 78 #[.func (.yield l) #[] #[], .pointer (some ⟨BC, 0, none⟩), .pointer (some ⟨BL, 0, none⟩)] W _
  have la : Later W (W.alloc (.cells #[.func (.yield l) #[] #[]] 45)) := (Later.refl W).alloc _
  have cC := (boxed_later bC (hW.next la)).cell
  have e1 := eqN54
  go_enter Try.func78, Try.ntmps78
  go_wp2
  refine bodyPost_ret (v := .tuple #[]) (by simp [results, Try.results78, go_sem]) rfl ?_
  exact ⟨⟨_, rfl⟩, la⟩
theorem call89 {BC BP BQ BF : Nat} {w0 : World} (bC : Boxed w0 BC 54 .nilFunc) (l : Nat) (W : World) (hW : Later w0 W) : Calls Try.prog 89 (#[.func (.yield l) #[] #[]] ++ #[.pointer (some ⟨BC, 0, none⟩), .pointer (some ⟨BP, 0, none⟩), .pointer (some ⟨BQ, 0, none⟩), .pointer (some ⟨BF, 0, none⟩)]) W fun e V => (∃ v, e = .returned v) ∧ Later W V := by
  show Calls Try.prog 89 #[.func (.yield l) #[] #[], .pointer (some ⟨BC, 0, none⟩), .pointer (some ⟨BP, 0, none⟩), .pointer (some ⟨BQ, 0, none⟩), .pointer (some ⟨BF, 0, none⟩)] W _
  have la : Later W (W.alloc (.cells #[.func (.yield l) #[] #[]] 45)) := (Later.refl W).alloc _
  have cC := (boxed_later bC (hW.next la)).cell
  have e1 := eqN54
  go_enter Try.func89, Try.ntmps89
  go_wp2
  refine bodyPost_ret (v := .tuple #[]) (by simp [results, Try.results89, go_sem]) rfl ?_
  exact ⟨⟨_, rfl⟩, la⟩
/-! ### Meet, Without, Join of what may not be there -/
def Fv (v : Value) : Prop := v = .nilFunc ∨ ∃ g lb, v = .func (.func g) #[] lb
theorem split_vals {w : World} {cv pv qv : Value} {both : Bool} (hc : Fv cv) (hp : Fv pv) (hq : Fv qv) :
    Calls Try.prog 82 #[cv, pv, qv, .bool both] w fun e V => e = .returned (splitV w.heap.size) ∧ Later w V ∧ SplitAt V w.heap.size cv pv qv both := by
  have hs := split_new w cv pv qv both
  have hl : Later w ((((w.alloc (.cells #[cv] 54)).alloc (.cells #[pv] 29)).alloc (.cells #[qv] 29)).alloc (.cells #[.bool both] 4)) := ((((Later.refl w).alloc _).alloc _).alloc _).alloc _
  rcases hc with rfl | ⟨c, lc, rfl⟩ <;> rcases hp with rfl | ⟨gp, lp, rfl⟩ <;> rcases hq with rfl | ⟨gq, lq, rfl⟩
  all_goals
    go_enter Try.func82, Try.ntmps82
    go_wp2_with fail
    go_ret
    exact ⟨by simp, hl, hs⟩
theorem meet_vals {w : World} {cv pv qv : Value} (hc : Fv cv) (hp : Fv pv) (hq : Fv qv) :
    Calls Try.prog 50 #[cv, pv, qv] w fun e V => e = .returned (splitV w.heap.size) ∧ Later w V ∧ SplitAt V w.heap.size cv pv qv true := by
  have h := split_vals (w := w) (both := true) hc hp hq
  rcases hc with rfl | ⟨c, lc, rfl⟩ <;> rcases hp with rfl | ⟨gp, lp, rfl⟩ <;> rcases hq with rfl | ⟨gq, lq, rfl⟩
  all_goals
    go_enter Try.func50, Try.ntmps50
    go_wp2_with fail
    go_at_call 82; refine h.mono ?_; rintro e V ⟨rfl, h1, h2⟩
    go_wp2_with fail
    go_ret
    exact ⟨by simp, h1, h2⟩
theorem without_vals {w : World} {cv pv qv : Value} (hc : Fv cv) (hp : Fv pv) (hq : Fv qv) :
    Calls Try.prog 51 #[cv, pv, qv] w fun e V => e = .returned (splitV w.heap.size) ∧ Later w V ∧ SplitAt V w.heap.size cv pv qv false := by
  have h := split_vals (w := w) (both := false) hc hp hq
  rcases hc with rfl | ⟨c, lc, rfl⟩ <;> rcases hp with rfl | ⟨gp, lp, rfl⟩ <;> rcases hq with rfl | ⟨gq, lq, rfl⟩
  all_goals
    go_enter Try.func51, Try.ntmps51
    go_wp2_with fail
    go_at_call 82; refine h.mono ?_; rintro e V ⟨rfl, h1, h2⟩
    go_wp2_with fail
    go_ret
    exact ⟨by simp, h1, h2⟩
set_option maxRecDepth 100000 in
theorem joins_none {v0 : Value} {w : World} {b0 cap : Nat} (h0 : w.cell? ⟨b0, 0, none⟩ = some v0) (h1 : v0.oneCell' = true) :
    Calls Try.prog 49 #[.nilFunc, .slice (some ⟨b0, 0, none⟩) 1 cap] w fun e V => e = .returned (joinV w.heap.size) ∧ Later w V ∧ Boxed V w.heap.size 54 .nilFunc := by
  obtain ⟨i0, hi, hz1, hz2, hz3⟩ := info_parts info29
  have bC := (Boxed.new w 54 .nilFunc).alloc (.cells #[.slice (some ⟨b0, 0, none⟩) 1 cap] 110)
  have bL := Boxed.new (w.alloc (.cells #[.nilFunc] 54)) 110 (.slice (some ⟨b0, 0, none⟩) 1 cap)
  rw [World.size_alloc] at bL
  have hl : Later w ((w.alloc (.cells #[.nilFunc] 54)).alloc (.cells #[.slice (some ⟨b0, 0, none⟩) 1 cap] 110)) := ((Later.refl w).alloc _).alloc _
  have hvs2 : ∀ j u, [v0][j]? = some u → ((w.alloc (.cells #[.nilFunc] 54)).alloc (.cells #[.slice (some ⟨b0, 0, none⟩) 1 cap] 110)).cell? ((⟨b0, 0, none⟩ : Addr).add j) = some u := fun j u h => by
    match j, h with
    | 0, h => cases h; rw [addr_plus]; exact hl.cell h0
    | j + 1, h => simp at h
  go_enter Try.func49, Try.ntmps49
  go_wp2_with (at_builtin; refine wpList_append_own_wide (P := Try.prog) (w := _) rfl (.const (.slice none 0 0)) _ 110 rfl w.heap.size 29 i0 .nilFunc 1 8 underlying110 hi hz1 hz2 hz3 rfl (by decide) (.slice none 0 0) 0 [] rfl (World.ownsRow_nil ..) ⟨b0, 0, none⟩ 1 cap [v0] rfl (by simp) hvs2 (by simpa using h1) (by unfold maxLen; simp) (by simp) (by simp; omega) ?_; intro v' w' hown hgrow hnil; have hvv : ∃ g cp, v' = .slice (some ⟨g, 0, none⟩) (0 + 1) cp := row_form hown (by omega); obtain ⟨g, cp, rfl⟩ := hvv; have bL2 := bL.kept hgrow (fun e => by cases e); have bC2 := bC.kept hgrow (fun e => by cases e); have k1 := bL2.cell; have k2 := bL2.frozen)
  go_ret
  rw [Nat.zero_add] at *
  have cg : Later ((w.alloc (.cells #[.nilFunc] 54)).alloc (.cells #[.slice (some ⟨b0, 0, none⟩) 1 cap] 110)) w' := ⟨hgrow.os, hgrow.tape, hgrow.output, hgrow.size, fun k hk => hgrow.block k hk (fun e => by cases e)⟩
  have cs : Chg (only (w.heap.size + 1)) w' (w'.setCell ⟨w.heap.size + 1, 0, none⟩ (.slice (some ⟨g, 0, none⟩) 1 cp)) := Chg.set _ _ rfl
  exact ⟨by simp, Later.far (hl.next cg) (by omega) cs, bC2.other (by omega) _⟩
end Go.Proofs.Yteledidnhjioaaa.Sh
