import Derived.Test.YteledidnhjioaaaSiV
namespace Go.Proofs.Yteledidnhjioaaa.Sh
open Go.RowKit Go.Lib Go.Proofs Go.Shelf
set_option linter.unusedVariables false
set_option linter.unusedSimpArgs false

set_option maxRecDepth 100000 in
set_option maxHeartbeats 8000000 in
theorem meet_ref {a b : List (Int × Int)} {w : World} {A B : Option Addr} {ca cb : Nat} (ha : SliceAt w A ca a) (hb : SliceAt w B cb b) (hr : Rises cmpR b) (hz : a.length ≤ 8796093022080) :
    Calls Try.prog 53 #[.slice A a.length ca, .slice B b.length cb] w fun e V => ∃ v, e = .returned v ∧ V.ownsRow w.heap.size 27 2 v (a.filter fun x => hasL cmpR x b).length (flat (a.filter fun x => hasL cmpR x b)) ∧ Later w V := by
  have hcap := ha.1
  obtain ⟨n, hn⟩ : ∃ n, a.length = n := ⟨_, rfl⟩
  have hn1 : a.length ≤ n := by omega
  rw [hn] at hcap hz ⊢
  replace hn := hid hn
  go_enter Try.func53, Try.ntmps53
  go_wp2_with fail
  go_loopw [5, 6] (fun v i wr => ∃ k : Nat, k ≤ n ∧ i = .int .i64 k ∧ wr.ownsRow w.heap.size 27 2 v ((a.take k).filter fun x => hasL cmpR x b).length (flat ((a.take k).filter fun x => hasL cmpR x b)) ∧ Later w wr) (fun _ i _ => n - (intOf i).toNat)
  case atStart => exact ⟨0, Nat.zero_le _, rfl, World.ownsRow_nil .., Later.refl _⟩
  case round =>
    obtain ⟨k, hk, rfl, hrow, hlw⟩ := hrel
    by_cases hlt : k < n
    · obtain ⟨x, hx⟩ : ∃ x, a[k]? = some x := ⟨_, List.getElem?_eq_getElem (by have := hn.out; omega)⟩
      obtain ⟨p, o, rfl, c0, c1⟩ := (ha.later hlw).2.2 _ _ hx
      have hfind := find_ref x (hb.later hlw) hr
      have hsn := take_snoc hx
      have hlen : ((a.take k).filter fun x => hasL cmpR x b).length ≤ k := Nat.le_trans (List.length_filter_le _ _) (by rw [List.length_take]; omega)
      have hkn : (k : Int) < (n : Int) := by omega
      cases hh : hasL cmpR x b
      · have hat := atL_none hh
        have hf : ((a.take (k + 1)).filter fun x => hasL cmpR x b) = (a.take k).filter (fun x => hasL cmpR x b) := by rw [hsn, List.filter_append]; simp [hh]
        rw [hat] at hfind
        replace hf := hid hf
        clear hat hh hsn hx
        go_wp2_with fail
        go_at_call 77; refine hfind.mono ?_; rintro e w1 ⟨rfl, l1⟩
        have d0 := l1.cell c0
        have d1 := l1.cell c1
        have hrow1 := own_chg hrow (X := fun _ => False) l1.chg (fun _ _ h => h)
        have hl1 := hlw.next l1
        have hW1 := hl1.size
        go_wp2_with fail
        go_roundw
        case rel => exact ⟨k + 1, by omega, by go_num, by rw [hf.out]; exact hrow1, hl1⟩
        case measure => simp [intOf]; omega
      · have hat : atL cmpR x b = (rankL cmpR x b : Int) := by unfold atL; rw [if_pos hh]
        have hf : ((a.take (k + 1)).filter fun x => hasL cmpR x b) = (a.take k).filter (fun x => hasL cmpR x b) ++ [x] := by rw [hsn, List.filter_append]; simp [hh]
        rw [hat] at hfind
        obtain ⟨R, hR⟩ : ∃ R, rankL cmpR x b = R := ⟨_, rfl⟩
        rw [hR] at hfind
        have hR0 : (0 : Int) ≤ (R : Int) := by omega
        have hR1 : ¬ (R : Int) < 0 := by omega
        replace hf := hid hf
        clear hat hh hsn hx hR
        go_wp2_with fail
        go_at_call 77; refine hfind.mono ?_; rintro e w1 ⟨rfl, l1⟩
        have d0 := l1.cell c0
        have d1 := l1.cell c1
        have hrow1 := own_chg hrow (X := fun _ => False) l1.chg (fun _ _ h => h)
        have hl1 := hlw.next l1
        have hW1 := hl1.size
        go_wp2_with (at_builtin; refine append_one (x := x) rfl rfl rfl rfl (hrow1.alloc _) (two_new _ _ _ _) (by omega) (by simp; omega) ?_; intro v' w' hrow' hbel)
        go_roundw
        case rel => exact ⟨k + 1, by omega, by go_num, by rw [hf.out]; exact hrow', (hl1.next ((Later.refl w1).alloc _)).trans hbel⟩
        case measure => simp [intOf]; omega
    · obtain rfl : k = n := by omega
      rw [List.take_of_length_le hn1] at hrow
      go_wp2_with fail
      go_ret
      exact ⟨_, rfl, hrow, hlw⟩

set_option maxRecDepth 100000 in
set_option maxHeartbeats 8000000 in
theorem without_ref {a b : List (Int × Int)} {w : World} {A B : Option Addr} {ca cb : Nat} (ha : SliceAt w A ca a) (hb : SliceAt w B cb b) (hr : Rises cmpR b) (hz : a.length ≤ 8796093022080) :
    Calls Try.prog 54 #[.slice A a.length ca, .slice B b.length cb] w fun e V => ∃ v, e = .returned v ∧ V.ownsRow w.heap.size 27 2 v (a.filter fun x => !hasL cmpR x b).length (flat (a.filter fun x => !hasL cmpR x b)) ∧ Later w V := by
  have hcap := ha.1
  obtain ⟨n, hn⟩ : ∃ n, a.length = n := ⟨_, rfl⟩
  have hn1 : a.length ≤ n := by omega
  rw [hn] at hcap hz ⊢
  replace hn := hid hn
  go_enter Try.func54, Try.ntmps54
  go_wp2_with fail
  go_loopw [5, 6] (fun v i wr => ∃ k : Nat, k ≤ n ∧ i = .int .i64 k ∧ wr.ownsRow w.heap.size 27 2 v ((a.take k).filter fun x => !hasL cmpR x b).length (flat ((a.take k).filter fun x => !hasL cmpR x b)) ∧ Later w wr) (fun _ i _ => n - (intOf i).toNat)
  case atStart => exact ⟨0, Nat.zero_le _, rfl, World.ownsRow_nil .., Later.refl _⟩
  case round =>
    obtain ⟨k, hk, rfl, hrow, hlw⟩ := hrel
    by_cases hlt : k < n
    · obtain ⟨x, hx⟩ : ∃ x, a[k]? = some x := ⟨_, List.getElem?_eq_getElem (by have := hn.out; omega)⟩
      obtain ⟨p, o, rfl, c0, c1⟩ := (ha.later hlw).2.2 _ _ hx
      have hfind := find_ref x (hb.later hlw) hr
      have hsn := take_snoc hx
      have hlen : ((a.take k).filter fun x => !hasL cmpR x b).length ≤ k := Nat.le_trans (List.length_filter_le _ _) (by rw [List.length_take]; omega)
      have hkn : (k : Int) < (n : Int) := by omega
      cases hh : hasL cmpR x b
      · have hat := atL_none hh
        have hf : ((a.take (k + 1)).filter fun x => !hasL cmpR x b) = (a.take k).filter (fun x => !hasL cmpR x b) ++ [x] := by rw [hsn, List.filter_append]; simp [hh]
        rw [hat] at hfind
        replace hf := hid hf
        clear hat hh hsn hx
        go_wp2_with fail
        go_at_call 77; refine hfind.mono ?_; rintro e w1 ⟨rfl, l1⟩
        have d0 := l1.cell c0
        have d1 := l1.cell c1
        have hrow1 := own_chg hrow (X := fun _ => False) l1.chg (fun _ _ h => h)
        have hl1 := hlw.next l1
        have hW1 := hl1.size
        go_wp2_with (at_builtin; refine append_one (x := x) rfl rfl rfl rfl (hrow1.alloc _) (two_new _ _ _ _) (by omega) (by simp; omega) ?_; intro v' w' hrow' hbel)
        go_roundw
        case rel => exact ⟨k + 1, by omega, by go_num, by rw [hf.out]; exact hrow', (hl1.next ((Later.refl w1).alloc _)).trans hbel⟩
        case measure => simp [intOf]; omega
      · have hat : atL cmpR x b = (rankL cmpR x b : Int) := by unfold atL; rw [if_pos hh]
        have hf : ((a.take (k + 1)).filter fun x => !hasL cmpR x b) = (a.take k).filter (fun x => !hasL cmpR x b) := by rw [hsn, List.filter_append]; simp [hh]
        rw [hat] at hfind
        obtain ⟨R, hR⟩ : ∃ R, rankL cmpR x b = R := ⟨_, rfl⟩
        rw [hR] at hfind
        have hR0 : (0 : Int) ≤ (R : Int) := by omega
        have hR1 : ¬ (R : Int) < 0 := by omega
        replace hf := hid hf
        clear hat hh hsn hx hR
        go_wp2_with fail
        go_at_call 77; refine hfind.mono ?_; rintro e w1 ⟨rfl, l1⟩
        have d0 := l1.cell c0
        have d1 := l1.cell c1
        have hrow1 := own_chg hrow (X := fun _ => False) l1.chg (fun _ _ h => h)
        have hl1 := hlw.next l1
        have hW1 := hl1.size
        go_wp2_with fail
        go_roundw
        case rel => exact ⟨k + 1, by omega, by go_num, by rw [hf.out]; exact hrow1, hl1⟩
        case measure => simp [intOf]; omega
    · obtain rfl : k = n := by omega
      rw [List.take_of_length_le hn1] at hrow
      go_wp2_with fail
      go_ret
      exact ⟨_, rfl, hrow, hlw⟩
end Go.Proofs.Yteledidnhjioaaa.Sh
namespace Go.Proofs.Yteledidnhjioaaa.Sh
open Go.RowKit Go.Lib Go.Proofs Go.Shelf
set_option linter.unusedVariables false
set_option linter.unusedSimpArgs false
attribute [local go_sem] Oper.semAt_some
theorem enters89 : ∀ args w, (callFunc 89 args).run Try.prog w = .ok (.enter 89 args) w := fun args w => enters_of Try.func89 (by kernel_rfl) rfl args w
theorem enters78 : ∀ args w, (callFunc 78 args).run Try.prog w = .ok (.enter 78 args) w := fun args w => enters_of Try.func78 (by kernel_rfl) rfl args w
/-- what Meet and Without hand out: the boxes of compare, of the two sequences, of the flag -/
abbrev splitV (B : Nat) : Value := .func (.func 89) #[] #[.pointer (some ⟨B, 0, none⟩), .pointer (some ⟨B + 1, 0, none⟩), .pointer (some ⟨B + 1 + 1, 0, none⟩), .pointer (some ⟨B + 1 + 1 + 1, 0, none⟩)]
def SplitAt (W : World) (B : Nat) (cmp p q : Value) (both : Bool) : Prop := ((Boxed W B 54 cmp ∧ Boxed W (B + 1) 29 p) ∧ Boxed W (B + 1 + 1) 29 q) ∧ Boxed W (B + 1 + 1 + 1) 4 (.bool both)
theorem split_new (w : World) (cmp p q : Value) (both : Bool) : SplitAt ((((w.alloc (.cells #[cmp] 54)).alloc (.cells #[p] 29)).alloc (.cells #[q] 29)).alloc (.cells #[.bool both] 4)) w.heap.size cmp p q both := by
  have h1 := ((((Boxed.new w 54 cmp).alloc (.cells #[p] 29)).alloc (.cells #[q] 29)).alloc (.cells #[.bool both] 4))
  have h2 := (((Boxed.new (w.alloc (.cells #[cmp] 54)) 29 p).alloc (.cells #[q] 29)).alloc (.cells #[.bool both] 4))
  have h3 := ((Boxed.new ((w.alloc (.cells #[cmp] 54)).alloc (.cells #[p] 29)) 29 q).alloc (.cells #[.bool both] 4))
  have h4 := Boxed.new (((w.alloc (.cells #[cmp] 54)).alloc (.cells #[p] 29)).alloc (.cells #[q] 29)) 4 (.bool both)
  simp only [World.size_alloc] at h2 h3 h4
  exact ⟨⟨⟨h1, h2⟩, h3⟩, h4⟩
theorem split_any {w : World} {c : Nat} {gp gq : Nat} {lp lq : Array Value} {both : Bool} :
    Calls Try.prog 82 #[.func (.func c) #[] #[], .func (.func gp) #[] lp, .func (.func gq) #[] lq, .bool both] w fun e V => e = .returned (splitV w.heap.size) ∧ Later w V ∧ SplitAt V w.heap.size (.func (.func c) #[] #[]) (.func (.func gp) #[] lp) (.func (.func gq) #[] lq) both := by
  have hs := split_new w (.func (.func c) #[] #[]) (.func (.func gp) #[] lp) (.func (.func gq) #[] lq) both
  have hl : Later w ((((w.alloc (.cells #[.func (.func c) #[] #[]] 54)).alloc (.cells #[.func (.func gp) #[] lp] 29)).alloc (.cells #[.func (.func gq) #[] lq] 29)).alloc (.cells #[.bool both] 4)) := ((((Later.refl w).alloc _).alloc _).alloc _).alloc _
  go_enter Try.func82, Try.ntmps82
  go_wp2_with fail
  go_ret
  exact ⟨by simp, hl, hs⟩
theorem meet_any {w : World} {c : Nat} {gp gq : Nat} {lp lq : Array Value} :
    Calls Try.prog 50 #[.func (.func c) #[] #[], .func (.func gp) #[] lp, .func (.func gq) #[] lq] w fun e V => e = .returned (splitV w.heap.size) ∧ Later w V ∧ SplitAt V w.heap.size (.func (.func c) #[] #[]) (.func (.func gp) #[] lp) (.func (.func gq) #[] lq) true := by
  go_enter Try.func50, Try.ntmps50
  go_wp2_with fail
  go_at_call 82; refine split_any.mono ?_; rintro e V ⟨rfl, h1, h2⟩
  go_wp2_with fail
  go_ret
  exact ⟨by simp, h1, h2⟩
theorem without_any {w : World} {c : Nat} {gp gq : Nat} {lp lq : Array Value} :
    Calls Try.prog 51 #[.func (.func c) #[] #[], .func (.func gp) #[] lp, .func (.func gq) #[] lq] w fun e V => e = .returned (splitV w.heap.size) ∧ Later w V ∧ SplitAt V w.heap.size (.func (.func c) #[] #[]) (.func (.func gp) #[] lp) (.func (.func gq) #[] lq) false := by
  go_enter Try.func51, Try.ntmps51
  go_wp2_with fail
  go_at_call 82; refine split_any.mono ?_; rintro e V ⟨rfl, h1, h2⟩
  go_wp2_with fail
  go_ret
  exact ⟨by simp, h1, h2⟩
end Go.Proofs.Yteledidnhjioaaa.Sh
namespace Go.Proofs.Yteledidnhjioaaa.Sh
open Go.RowKit Go.Lib Go.Proofs Go.Shelf
set_option linter.unusedVariables false
set_option linter.unusedSimpArgs false
attribute [local go_sem] Oper.semAt_some
theorem info29 : (Try.prog.info? 29).map (fun i => (i.zero, i.size, i.bytes)) = some (some .nilFunc, 1, 8) := by kernel_rfl
theorem underlying110 : Try.prog.underlying 110 = some (.slice 29) := by kernel_rfl
abbrev joinV (B : Nat) : Value := .func (.func 78) #[] #[.pointer (some ⟨B, 0, none⟩), .pointer (some ⟨B + 1, 0, none⟩)]
theorem row_form {V : World} {base t z n : Nat} {v : Value} {xs : List Value} (h : V.ownsRow base t z v n xs) (hn : n ≠ 0) : ∃ g cp, v = .slice (some ⟨g, 0, none⟩) n cp :=
  h.2.elim (fun h => absurd h.2 hn) (fun ⟨g, cp, cur, e, _⟩ => ⟨g, cp, e⟩)
set_option maxRecDepth 100000 in
theorem joins_any {vs : List Value} {w : World} {cmp b0 cap : Nat} (hvs : ∀ j u, vs[j]? = some u → w.cell? ((⟨b0, 0, none⟩ : Addr).add j) = some u) (h1 : ∀ u ∈ vs, u.oneCell' = true) (hz : vs.length ≤ 1000) (hz0 : vs.length ≠ 0) :
    Calls Try.prog 49 #[.func (.func cmp) #[] #[], .slice (some ⟨b0, 0, none⟩) vs.length cap] w fun e V => e = .returned (joinV w.heap.size) ∧ Later w V ∧ Boxed V w.heap.size 54 (.func (.func cmp) #[] #[]) ∧ ∃ v, Boxed V (w.heap.size + 1) 110 v ∧ V.ownsRow w.heap.size 29 1 v vs.length vs := by
  obtain ⟨i0, hi, hz1, hz2, hz3⟩ := info_parts info29
  have bC := (Boxed.new w 54 (.func (.func cmp) #[] #[])).alloc (.cells #[.slice (some ⟨b0, 0, none⟩) vs.length cap] 110)
  have bL := Boxed.new (w.alloc (.cells #[.func (.func cmp) #[] #[]] 54)) 110 (.slice (some ⟨b0, 0, none⟩) vs.length cap)
  rw [World.size_alloc] at bL
  have hl : Later w ((w.alloc (.cells #[.func (.func cmp) #[] #[]] 54)).alloc (.cells #[.slice (some ⟨b0, 0, none⟩) vs.length cap] 110)) := ((Later.refl w).alloc _).alloc _
  have hvs2 : ∀ j u, vs[j]? = some u → ((w.alloc (.cells #[.func (.func cmp) #[] #[]] 54)).alloc (.cells #[.slice (some ⟨b0, 0, none⟩) vs.length cap] 110)).cell? ((⟨b0, 0, none⟩ : Addr).add j) = some u := fun j u h => by
    have := hvs j u h
    rw [addr_plus] at this ⊢
    exact hl.cell this
  go_enter Try.func49, Try.ntmps49
  go_wp2_with (at_builtin; refine wpList_append_own_wide (P := Try.prog) (w := _) rfl (.const (.slice none 0 0)) _ 110 rfl w.heap.size 29 i0 .nilFunc 1 8 underlying110 hi hz1 hz2 hz3 rfl (by decide) (.slice none 0 0) 0 [] rfl (World.ownsRow_nil ..) ⟨b0, 0, none⟩ vs.length cap vs rfl (by omega) hvs2 h1 (by unfold maxLen; omega) (by omega) (by simp; omega) ?_; intro v' w' hown hgrow hnil; have hvv : ∃ g cp, v' = .slice (some ⟨g, 0, none⟩) (0 + vs.length) cp := row_form hown (by omega); obtain ⟨g, cp, rfl⟩ := hvv; have bL2 := bL.kept hgrow (fun e => by cases e); have bC2 := bC.kept hgrow (fun e => by cases e); have k1 := bL2.cell; have k2 := bL2.frozen)
  go_ret
  rw [Nat.zero_add] at *
  have cg : Later ((w.alloc (.cells #[.func (.func cmp) #[] #[]] 54)).alloc (.cells #[.slice (some ⟨b0, 0, none⟩) vs.length cap] 110)) w' := ⟨hgrow.os, hgrow.tape, hgrow.output, hgrow.size, fun k hk => hgrow.block k hk (fun e => by cases e)⟩
  have cs : Chg (only (w.heap.size + 1)) w' (w'.setCell ⟨w.heap.size + 1, 0, none⟩ (.slice (some ⟨g, 0, none⟩) vs.length cp)) := Chg.set _ _ rfl
  refine ⟨by simp, Later.far (hl.next cg) (by omega) cs, bC2.other (by omega) _, _, bL2.set _, own_chg1 hown cs (fun b hb h => ?_)⟩
  have : b = w.heap.size + 1 := h
  subst this
  obtain ⟨_, _, cur, f, h2⟩ := own_at hown _ hb
  rw [show w'.heap[w.heap.size + 1]? = _ from bL2] at h2
  cases h2
end Go.Proofs.Yteledidnhjioaaa.Sh
