import Derived.Test.YteledidnhjioaaaSlA
import Derived.Test.YteledidnhjioaaaSiZ
namespace Go.Proofs.Yteledidnhjioaaa.Sh
open Go.RowKit Go.Lib Go.Proofs Go.Shelf
set_option linter.unusedVariables false
set_option linter.unusedSimpArgs false
/-! ### sequences that write nothing that was there -/
/-- as W8, but for the block R and what is new -/
def Near (R : Nat) (W8 V : World) : Prop := Chg (fun b => b = R ∨ W8.heap.size ≤ b) W8 V
theorem Near.trans {R : Nat} {A B C : World} (h : Near R A B) (k : Near R B C) : Near R A C := Chg.trans h (Chg.mono k fun b hb => hb.imp id fun hb => by have := h.size; omega)
theorem Near.chg {R : Nat} {A B C : World} {X : Nat → Prop} (h : Near R A B) (k : Chg X B C) (hX : ∀ b, X b → b = R ∨ A.heap.size ≤ b) : Near R A C := Chg.trans h (k.mono hX)
theorem Later.near {R : Nat} {A B : World} (h : Later A B) : Near R A B := h.chg
theorem Near.box {R B : Nat} {A V : World} {t : TypeId} {v : Value} (h : Near R A V) (b : Boxed A B t v) (hR : B ≠ R) : Boxed V B t v := boxed_turn b h (fun e => e.elim hR (fun e => by have := b.lt; omega))
theorem Near.cell {R b o : Nat} {A V : World} {v : Value} (h : Near R A V) (c : A.cell? ⟨b, o, none⟩ = some v) (hR : b ≠ R) : V.cell? ⟨b, o, none⟩ = some v := Chg.cell h c (fun e => e.elim hR (fun e => by have := cell_lt c; omega))
theorem IsT.sans {ok : Nat → Prop} {W : World} {R : Nat} (h1 : W.cell? ⟨R, 1, none⟩ = none) : ∀ {p : Option Addr} {T : Tr (Int × Int)}, IsT ok W p T → IsT (fun b => ok b ∧ b ≠ R) W p T
  | _, .leaf, h => h
  | _, .node _ _ _, ⟨b, pl, pr, hp, hb, k0, k1, k2, k3, k4, k5, hl, hr⟩ => ⟨b, pl, pr, hp, ⟨hb, fun e => by subst e; rw [h1] at k1; cases k1⟩, k0, k1, k2, k3, k4, k5, IsT.sans h1 hl, IsT.sans h1 hr⟩
theorem Tree.sans {X : Nat → Prop} {W : World} {R : Nat} {p : Option Addr} {T : Tr (Int × Int)} (h : Tree X W p T) (h1 : W.cell? ⟨R, 1, none⟩ = none) : Tree (fun b => X b ∨ b = R) W p T := by
  obtain ⟨ok, h2, h3⟩ := h
  exact ⟨_, IsT.sans h1 h2, fun b hb hk => hb.elim (fun hb => h3 b hb hk.1) (fun hb => hk.2 hb)⟩
theorem AllAt.sans {X : Nat → Prop} {W : World} {R bt : Nat} {T : Tr (Int × Int)} (h : AllAt X W bt T) (h1 : W.cell? ⟨R, 1, none⟩ = none) : AllAt (only R) W bt T := by
  obtain ⟨p, h2, h3⟩ := h.tree
  exact ⟨p, h2, (h3.sans h1).more (fun b hb _ => .inr hb)⟩
def Lz (R : Nat) (W8 : World) (g : Nat) (lb : Array Value) (xs : List (Int × Int)) : Prop :=
  ∀ V, Near R W8 V → ∀ X : Nat → Prop, (∀ b, X b → b = R ∨ W8.heap.size ≤ b) → SeqZ X (fun _ => False) g lb xs (fun _ U => Chg (fun b => X b ∨ V.heap.size ≤ b) V U) V
theorem Lz.up {R : Nat} {W8 W9 : World} {g : Nat} {lb : Array Value} {xs : List (Int × Int)} (h : Lz R W8 g lb xs) (l : Near R W8 W9) : Lz R W9 g lb xs := fun V hV X hX => h V (l.trans hV) X (fun b hb => (hX b hb).imp id fun hb => Nat.le_trans l.size hb)
theorem SeqZ.imp {X Z : Nat → Prop} {g : Nat} {lb : Array Value} {xs : List (Int × Int)} {G G' : Nat → World → Prop} {w0 : World} (h : SeqZ X Z g lb xs G w0) (hG : ∀ k V, G k V → G' k V) : SeqZ X Z g lb xs G' w0 := by
  intro n l J Jx W hW hJ hJx hJz hJxz hY hj
  refine (h n l J Jx W hW hJ hJx hJz hJxz hY hj).mono ?_
  rintro e V ⟨hv, hi, h1, (⟨h2, h3⟩ | ⟨pre, h2, h3, h4⟩)⟩
  · exact ⟨hv, hi, h1, .inl ⟨h2, hG _ _ h3⟩⟩
  · exact ⟨hv, hi, h1, .inr ⟨pre, h2, h3, hG _ _ h4⟩⟩
theorem SeqT.w {X Z : Nat → Prop} {g : Nat} {lb : Array Value} {xs : List (Int × Int)} {w0 : World} (h : SeqT X g lb xs w0) : SeqW X Z g lb xs (fun _ _ => True) w0 := by
  intro n l J Jx W hW hJ hJx hJz hJxz hY hj
  refine (h n l J Jx W hW hJ hJx (fun pre x W1 h1 h2 => (hY (n - 1) pre x W1 h1 h2).mono ?_) hj).mono ?_
  · rintro e V (⟨h1, h2, h3⟩ | ⟨h1, h2, h3⟩)
    · exact .inl ⟨h1, h2, h3⟩
    · exact .inr ⟨h1, h2⟩
  · rintro e V ⟨hv, (⟨ys, rfl, h1⟩ | ⟨pre, h1, h2⟩)⟩
    · exact ⟨hv, .inl ⟨h1, trivial⟩⟩
    · exact ⟨hv, .inr ⟨pre, h1, h2, trivial⟩⟩
theorem lz_all {R : Nat} {W8 : World} {bt : Nat} {T : Tr (Int × Int)} (h : AllAt (only R) W8 bt T) (hR : R < bt) : Lz R W8 57 #[.pointer (some ⟨bt, 0, none⟩)] T.list := by
  obtain ⟨p, h1, h2⟩ := h.tree
  intro V hV X hX
  have ht : Tree (fun b => b = R ∨ W8.heap.size ≤ b) W8 p T := h2.more (fun b h3 h4 => h3.elim id (fun h3 => by omega))
  have hs := all_seq (X := X) (hV.cell h1 (by omega)) ((ht.keep hV).more (fun b h3 _ => hX b h3))
  refine (SeqW.keep (K := fun U => Chg (fun b => X b ∨ V.heap.size ≤ b) V U) (hs.w (Z := fun _ => False)) (fun A U hA c => hA.trans (c.mono fun b hb => hb.imp id fun hb => hb.elim (fun h => h.elim) id)) (Chg.refl _ _) (fun k U _ _ hU => hU)).z
theorem lz_join {R c N J0 J1 cap : Nat} {f : (Int × Int) → (Int × Int) → Int} {ss : List Sq} {W8 : World} {A : Option Addr} (hc : Comp c f) (hf : ∀ a b, (f a b < 0 ↔ a.1 < b.1) ∧ (f a b = 0 ↔ a.1 = b.1)) (bC : Boxed W8 J0 54 (.func (.func c) #[] #[])) (bL : Boxed W8 J1 110 (.slice A ss.length cap)) (hR : R < J0 ∧ R < J1)
    (hA : ∀ (i : Nat) (s : Sq), ss[i]? = some s → ∃ b o, A = some ⟨b, o, none⟩ ∧ W8.cell? ⟨b, o + i, none⟩ = some s.v ∧ R < b) (hcap : ss.length ≤ cap) (hz : ss.length ≤ 1000)
    (hs : ∀ (i : Nat) (s : Sq), ss[i]? = some s → ∃ gf lb, s.v = .func (.func gf) #[] lb ∧ (∀ args w, (callFunc gf args).run Try.prog w = .ok (.enter gf args) w) ∧ Lz R W8 gf lb s.xs)
    (hx : ∀ (i : Nat) (s : Sq), ss[i]? = some s → s.xs.length ≤ 8796093022080) (hN : (ss.map (·.xs)).flatten.length ≤ N) (hz2 : (ss.map (·.xs)).flatten.length ≤ 4611686018427387904) :
    Lz R W8 78 #[.pointer (some ⟨J0, 0, none⟩), .pointer (some ⟨J1, 0, none⟩)] (mergeN N (ss.map (·.xs))) := by
  intro V hV X hX
  have hVs := hV.size
  refine joins_seq (c := c) (N := N) (BC := J0) (BL := J1) (cap := cap) (f := f) (ss := ss) (X := X) (Z := fun _ => False) (I := fun _ U => Chg (fun b => X b ∨ V.heap.size ≤ b) V U) (w0 := V) (A := A) hc hf (hV.box bC (by omega)) (hV.box bL (by omega))
    (fun i s h => by obtain ⟨b, o, e, h1, h2⟩ := hA i s h; exact ⟨b, o, e, hV.cell h1 (by omega), fun h => h⟩) hcap hz (fun e => by have := bC.lt; have := hX _ e; omega) (fun e => e) (fun b e => e.elim) (fun W hW i s h => ?_) (fun i U V' hU cg => hU.trans (cg.mono fun b hb => hb.symm)) (Chg.refl _ _) hx hN hz2
  obtain ⟨gf, lb, h1, h2, h3⟩ := hs i s h
  refine .inr ⟨gf, lb, h1, h2, fun U hU => ?_⟩
  have hXV : ∀ b, (X b ∨ V.heap.size ≤ b) → b = R ∨ W8.heap.size ≤ b := fun b hb => hb.elim (hX b) (fun hb => .inr (by omega))
  have hWs := hW.size
  refine (h3 U (hV.chg hU hXV) (upb W.heap.size) (fun b hb => .inr (by have : W.heap.size ≤ b := hb; omega))).imp fun k U' hU' => hU.trans (hU'.mono fun b hb => .inr (hb.elim (fun hb => by have : W.heap.size ≤ b := hb; omega) (fun hb => by have := hU.size; omega)))
theorem lz_split {R c B : Nat} {both : Bool} {f : (Int × Int) → (Int × Int) → Int} {W8 : World} {gp gq : Nat} {lp lq : Array Value} {p q : List (Int × Int)} (hc : Comp c f) (hf : ∀ a b, (f a b < 0 ↔ a.1 < b.1) ∧ (f a b = 0 ↔ a.1 = b.1)) (hB : SplitAt W8 B (.func (.func c) #[] #[]) (.func (.func gp) #[] lp) (.func (.func gq) #[] lq) both) (hR : R < B)
    (ep : ∀ args w, (callFunc gp args).run Try.prog w = .ok (.enter gp args) w) (eq : ∀ args w, (callFunc gq args).run Try.prog w = .ok (.enter gq args) w) (hp : Lz R W8 gp lp p) (hq : Lz R W8 gq lq q) (hxp : p.length ≤ 8796093022080) (hxq : q.length ≤ 8796093022080) :
    Lz R W8 89 #[.pointer (some ⟨B, 0, none⟩), .pointer (some ⟨B + 1, 0, none⟩), .pointer (some ⟨B + 1 + 1, 0, none⟩), .pointer (some ⟨B + 1 + 1 + 1, 0, none⟩)] (splitL both p q) := by
  obtain ⟨⟨⟨b0, b1⟩, b2⟩, b3⟩ := hB
  intro V hV X hX
  have hVs := hV.size
  have l0 := b0.lt
  have l3 := b3.lt
  have hXV : ∀ b, (X b ∨ V.heap.size ≤ b) → b = R ∨ W8.heap.size ≤ b := fun b hb => hb.elim (hX b) (fun hb => .inr (by omega))
  refine splits_seq (c := c) (BC := B) (BP := B + 1) (BQ := B + 1 + 1) (BF := B + 1 + 1 + 1) (both := both) (f := f) (p := p) (q := q) (X := X) (Z := fun _ => False) (I := fun _ U => Chg (fun b => X b ∨ V.heap.size ≤ b) V U) (w0 := V)
    hc hf (hV.box b0 (by omega)) (hV.box b1 (by omega)) (hV.box b2 (by omega)) (hV.box b3 (by omega)) (fun e => by have := hX _ e; omega) (fun e => e) (fun e => by have := hX _ e; omega) (fun e => e) (fun b e => e.elim) (fun W hW => ?_) (fun i U V' hU cg => hU.trans (cg.mono fun b hb => hb.symm)) (Chg.refl _ _) hxp hxq
  have hWs := hW.size
  have go : ∀ {gf : Nat} {lb : Array Value} {xs : List (Int × Int)}, Lz R W8 gf lb xs → ∀ U, Chg (fun b => X b ∨ V.heap.size ≤ b) V U → SeqZ (upb W.heap.size) (fun _ => False) gf lb xs (fun _ U' => Chg (fun b => X b ∨ V.heap.size ≤ b) V U') U := fun h3 U hU =>
    (h3 U (hV.chg hU hXV) (upb W.heap.size) (fun b hb => .inr (by have : W.heap.size ≤ b := hb; omega))).imp fun k U' hU' => hU.trans (hU'.mono fun b hb => .inr (hb.elim (fun hb => by have : W.heap.size ≤ b := hb; omega) (fun hb => by have := hU.size; omega)))
  exact ⟨.inr ⟨gp, lp, rfl, ep, go hp⟩, .inr ⟨gq, lq, rfl, eq, go hq⟩⟩
theorem told_lz {R : Nat} {V : World} {g : Nat} {lb : Array Value} {xs want : List (Int × Int)} {A : Option Addr} {cap : Nat} (h : Lz R V g lb xs) (hg : ∀ args w, (callFunc g args).run Try.prog w = .ok (.enter g args) w) (hw : SliceAt V A cap want) (hx : xs.length ≤ 4611686018427387904) :
    Calls Try.prog 25 #[.func (.func g) #[] lb, .slice A want.length cap] V fun e U => e = .returned (.bool (decide (xs = want))) ∧ Later V U := by
  refine (told_z (h V (Later.refl _).near (fresh V) (fun b hb => .inr hb)) hg hw (fun _ _ _ _ h => h) (fun b h => h.elim) (fun k A V' hA c => hA.trans (c.mono fun b hb => .inl hb)) hx).mono ?_
  rintro e U ⟨h1, h2, _⟩
  exact ⟨h1, Chg.below h2 (Nat.le_refl _) (fun b h => h.elim)⟩
theorem gathered_lz {R : Nat} {V : World} {g : Nat} {lb : Array Value} {xs : List (Int × Int)} (m : Nat) (h : Lz R V g lb xs) (hg : ∀ args w, (callFunc g args).run Try.prog w = .ok (.enter g args) w) (hx : xs.length ≤ 8796093022200) :
    Calls Try.prog 18 #[.func (.func g) #[] lb, .int .i64 m] V fun e U => ∃ v, e = .returned v ∧ U.ownsRow V.heap.size 27 2 v (xs.take m).length (flat (xs.take m)) ∧ Later V U := by
  refine (gathered_z m (h V (Later.refl _).near (fresh V) (fun b hb => .inr hb)) hg (fun b h => h.elim) (fun k A V' hA c => hA.trans (c.mono fun b hb => .inl hb)) hx).mono ?_
  rintro e U ⟨v, h1, h3, h2, _⟩
  exact ⟨v, h1, h3, Chg.below h2 (Nat.le_refl _) (fun b h => h.elim)⟩
end Go.Proofs.Yteledidnhjioaaa.Sh
namespace Go.Proofs.Yteledidnhjioaaa.Sh
open Go.RowKit Go.Lib Go.Proofs Go.Shelf
set_option linter.unusedVariables false
set_option linter.unusedSimpArgs false
/-! ### Join of two or three sequences that write nothing, as a call -/
abbrev Fq (g : Nat) (lb : Array Value) : Value := .func (.func g) #[] lb
theorem join_lz2 {R b0 cap ga gb : Nat} {la lb : Array Value} {xs ys : List (Int × Int)} {w : World} (z : w.cell? ⟨b0, 0, none⟩ = some (Fq ga la) ∧ w.cell? ⟨b0, 1, none⟩ = some (Fq gb lb)) (hR : R < w.heap.size)
    (ea : ∀ args w, (callFunc ga args).run Try.prog w = .ok (.enter ga args) w) (eb : ∀ args w, (callFunc gb args).run Try.prog w = .ok (.enter gb args) w) (za : Lz R w ga la xs) (zb : Lz R w gb lb ys) (hx : RisesR xs) (hy : RisesR ys) (hxz : xs.length ≤ 4000000000000) (hyz : ys.length ≤ 4000000000000) :
    Calls Try.prog 49 #[.func (.func 31) #[] #[], .slice (some ⟨b0, 0, none⟩) 2 cap] w fun e V => e = .returned (joinV w.heap.size) ∧ Later w V ∧ Lz R V 78 #[.pointer (some ⟨w.heap.size, 0, none⟩), .pointer (some ⟨w.heap.size + 1, 0, none⟩)] (joinR [xs, ys]) := by
  have hj := joins_any (vs := [Fq ga la, Fq gb lb]) (w := w) (cmp := 31) (b0 := b0) (cap := cap) (fun j u hu => by
    rw [addr_plus, Nat.zero_add]
    match j, hu with
    | 0, hu => cases hu; exact z.1
    | 1, hu => cases hu; exact z.2
    | j + 2, hu => simp at hu) (by simp [Value.oneCell']) (by simp) (by simp)
  refine hj.mono ?_
  rintro e V ⟨rfl, l, bC, vj, bL, row⟩
  obtain ⟨gj, cj, rfl⟩ := row_form row (by simp)
  have cellj : ∀ j, j < 2 → V.cell? ⟨gj, j, none⟩ = [Fq ga la, Fq gb lb][j]? := fun j hlt => row.cellAt j (by simpa using hlt)
  have c0 := cellj 0 (by decide)
  have c1 := cellj 1 (by decide)
  simp only [List.getElem?_cons_zero, List.getElem?_cons_succ] at c0 c1
  have hgj := (own_at row gj rfl).1
  have hcj : 2 ≤ cj := by
    rcases row.2 with ⟨h1, _⟩ | ⟨g', c', cur, h1, _, _, h4, _⟩
    · cases h1
    · injection h1 with _ _ h1; subst h1; simpa using h4
  refine ⟨rfl, l, ?_⟩
  have hfl : ([xs, ys] : List (List (Int × Int))).flatten.length ≤ 8000000000000 := by simp; omega
  have h := lz_join (R := R) (c := 31) (N := 8000000000000) (J0 := w.heap.size) (J1 := w.heap.size + 1) (cap := cj) (f := cmpK) (ss := [⟨Fq ga la, xs⟩, ⟨Fq gb lb, ys⟩]) (W8 := V) (A := some ⟨gj, 0, none⟩) compK signK bC bL ⟨hR, by omega⟩ (fun i s hi => by
    match i, hi with
    | 0, hi => cases hi; exact ⟨gj, 0, rfl, c0, by omega⟩
    | 1, hi => cases hi; exact ⟨gj, 0, rfl, c1, by omega⟩
    | i + 2, hi => simp at hi) hcj (by simp) (fun i s hi => by
    match i, hi with
    | 0, hi => cases hi; exact ⟨ga, la, rfl, ea, za.up l.near⟩
    | 1, hi => cases hi; exact ⟨gb, lb, rfl, eb, zb.up l.near⟩
    | i + 2, hi => simp at hi) (fun i s hi => by
    match i, hi with
    | 0, hi => cases hi; show xs.length ≤ _; omega
    | 1, hi => cases hi; show ys.length ≤ _; omega
    | i + 2, hi => simp at hi) hfl (Nat.le_trans hfl (by decide))
  have e := join2 xs ys hx hy hfl
  simp only [List.map_cons, List.map_nil] at h
  rw [e] at h
  exact h
theorem join_lz3 {R b0 cap ga gb gc : Nat} {la lb lc : Array Value} {xs ys zs : List (Int × Int)} {w : World} (z : w.cell? ⟨b0, 0, none⟩ = some (Fq ga la) ∧ w.cell? ⟨b0, 1, none⟩ = some (Fq gb lb) ∧ w.cell? ⟨b0, 2, none⟩ = some (Fq gc lc)) (hR : R < w.heap.size)
    (ea : ∀ args w, (callFunc ga args).run Try.prog w = .ok (.enter ga args) w) (eb : ∀ args w, (callFunc gb args).run Try.prog w = .ok (.enter gb args) w) (ec : ∀ args w, (callFunc gc args).run Try.prog w = .ok (.enter gc args) w) (za : Lz R w ga la xs) (zb : Lz R w gb lb ys) (zc : Lz R w gc lc zs) (hx : RisesR xs) (hy : RisesR ys) (hz : RisesR zs) (hxz : xs.length ≤ 2000000000000) (hyz : ys.length ≤ 2000000000000) (hzz : zs.length ≤ 2000000000000) :
    Calls Try.prog 49 #[.func (.func 31) #[] #[], .slice (some ⟨b0, 0, none⟩) 3 cap] w fun e V => e = .returned (joinV w.heap.size) ∧ Later w V ∧ Lz R V 78 #[.pointer (some ⟨w.heap.size, 0, none⟩), .pointer (some ⟨w.heap.size + 1, 0, none⟩)] (joinR [xs, ys, zs]) := by
  have hj := joins_any (vs := [Fq ga la, Fq gb lb, Fq gc lc]) (w := w) (cmp := 31) (b0 := b0) (cap := cap) (fun j u hu => by
    rw [addr_plus, Nat.zero_add]
    match j, hu with
    | 0, hu => cases hu; exact z.1
    | 1, hu => cases hu; exact z.2.1
    | 2, hu => cases hu; exact z.2.2
    | j + 3, hu => simp at hu) (by simp [Value.oneCell']) (by simp) (by simp)
  refine hj.mono ?_
  rintro e V ⟨rfl, l, bC, vj, bL, row⟩
  obtain ⟨gj, cj, rfl⟩ := row_form row (by simp)
  have cellj : ∀ j, j < 3 → V.cell? ⟨gj, j, none⟩ = [Fq ga la, Fq gb lb, Fq gc lc][j]? := fun j hlt => row.cellAt j (by simpa using hlt)
  have c0 := cellj 0 (by decide)
  have c1 := cellj 1 (by decide)
  have c2 := cellj 2 (by decide)
  simp only [List.getElem?_cons_zero, List.getElem?_cons_succ] at c0 c1 c2
  have hgj := (own_at row gj rfl).1
  have hcj : 3 ≤ cj := by
    rcases row.2 with ⟨h1, _⟩ | ⟨g', c', cur, h1, _, _, h4, _⟩
    · cases h1
    · injection h1 with _ _ h1; subst h1; simpa using h4
  refine ⟨rfl, l, ?_⟩
  have hfl : ([xs, ys, zs] : List (List (Int × Int))).flatten.length ≤ 8000000000000 := by simp; omega
  have h := lz_join (R := R) (c := 31) (N := 8000000000000) (J0 := w.heap.size) (J1 := w.heap.size + 1) (cap := cj) (f := cmpK) (ss := [⟨Fq ga la, xs⟩, ⟨Fq gb lb, ys⟩, ⟨Fq gc lc, zs⟩]) (W8 := V) (A := some ⟨gj, 0, none⟩) compK signK bC bL ⟨hR, by omega⟩ (fun i s hi => by
    match i, hi with
    | 0, hi => cases hi; exact ⟨gj, 0, rfl, c0, by omega⟩
    | 1, hi => cases hi; exact ⟨gj, 0, rfl, c1, by omega⟩
    | 2, hi => cases hi; exact ⟨gj, 0, rfl, c2, by omega⟩
    | i + 3, hi => simp at hi) hcj (by simp) (fun i s hi => by
    match i, hi with
    | 0, hi => cases hi; exact ⟨ga, la, rfl, ea, za.up l.near⟩
    | 1, hi => cases hi; exact ⟨gb, lb, rfl, eb, zb.up l.near⟩
    | 2, hi => cases hi; exact ⟨gc, lc, rfl, ec, zc.up l.near⟩
    | i + 3, hi => simp at hi) (fun i s hi => by
    match i, hi with
    | 0, hi => cases hi; show xs.length ≤ _; omega
    | 1, hi => cases hi; show ys.length ≤ _; omega
    | 2, hi => cases hi; show zs.length ≤ _; omega
    | i + 3, hi => simp at hi) hfl (Nat.le_trans hfl (by decide))
  have e := join3 xs ys zs hx hy hz hfl
  simp only [List.map_cons, List.map_nil] at h
  rw [e] at h
  exact h
end Go.Proofs.Yteledidnhjioaaa.Sh
