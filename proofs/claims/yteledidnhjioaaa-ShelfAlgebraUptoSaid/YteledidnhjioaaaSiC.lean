import Derived.Test.YteledidnhjioaaaSiB
namespace Go.Proofs.Yteledidnhjioaaa.Sh
open Go.RowKit Go.Lib Go.Proofs Go.Shelf
set_option linter.unusedVariables false
set_option linter.unusedSimpArgs false
/-- an array of three, one cell each -/
def Arr (W : World) (B : Nat) (t : TypeId) (c : Nat → Value) : Prop := W.heap[B]? = some (.cells #[c 0, c 1, c 2] t (0, 0))
theorem lt3 {k : Nat} (h : k < 3) : k = 0 ∨ k = 1 ∨ k = 2 := by omega
theorem Arr.lt {W : World} {B : Nat} {t : TypeId} {c : Nat → Value} (h : Arr W B t c) : B < W.heap.size := (Array.getElem?_eq_some_iff.1 h).1
theorem Arr.cell {W : World} {B : Nat} {t : TypeId} {c : Nat → Value} (h : Arr W B t c) {k : Nat} (hk : k < 3) : W.cell? ⟨B, k, none⟩ = some (c k) ∧ W.frozen? ⟨B, k, none⟩ = false := by
  have h' : W.heap[B]? = some (.cells #[c 0, c 1, c 2] t (0, 0)) := h
  rcases lt3 hk with rfl | rfl | rfl <;> simp [World.cell?, World.frozen?, h']
theorem Arr.congr {W : World} {B : Nat} {t : TypeId} {c d : Nat → Value} (h : Arr W B t c) (e : ∀ k, k < 3 → d k = c k) : Arr W B t d := by
  unfold Arr
  rw [e 0 (by omega), e 1 (by omega), e 2 (by omega)]
  exact h
theorem Arr.set {W : World} {B : Nat} {t : TypeId} {c : Nat → Value} (h : Arr W B t c) {k : Nat} (hk : k < 3) (v : Value) : Arr (W.setCell ⟨B, k, none⟩ v) B t (fun j => if j = k then v else c j) := by
  have h' : W.heap[B]? = some (.cells #[c 0, c 1, c 2] t (0, 0)) := h
  rcases lt3 hk with rfl | rfl | rfl <;> simp [Arr, World.setCell, Array.getElem?_modify, h']
theorem Arr.keep {X : Nat → Prop} {W W' : World} {B : Nat} {t : TypeId} {c : Nat → Value} (h : Arr W B t c) (k : Chg X W W') (hx : ¬ X B) : Arr W' B t c := (k.block B h.lt hx).trans h
theorem Arr.later {W W' : World} {B : Nat} {t : TypeId} {c : Nat → Value} (h : Arr W B t c) (k : Later W W') : Arr W' B t c := (k.block B h.lt).trans h
/-- what the play may change: the two arrays, the three Shelves -/
def plX (S L : Nat) (f : Nat → Nat) : Nat → Prop := fun b => b = S ∨ b = L ∨ ∃ k, k < 3 ∧ b = f k
structure Play (W : World) (S L : Nat) (f : Nat → Nat) (T : Nat → Tr (Int × Int)) (av : Nat → Option Addr) (cp : Nat → Nat) : Prop where
  s : Arr W S 74 fun k => .pointer (some ⟨f k, 0, none⟩)
  l : Arr W L 75 fun k => .slice (av k) (T k).list.length (cp k)
  shf : ∀ k, k < 3 → Shf (plX S L f) W (f k) 45 (T k)
  rise : ∀ k, k < 3 → Rises cmpR (T k).list
  sl : ∀ k, k < 3 → SliceAt W (av k) (cp k) (T k).list
  off : ∀ k, k < 3 → ∀ b o, av k = some ⟨b, o, none⟩ → b < W.heap.size ∧ ¬ plX S L f b
  dist : ∀ i j, i < 3 → j < 3 → f i = f j → i = j
  away : ∀ k, k < 3 → f k ≠ S ∧ f k ≠ L
  ne : S ≠ L
theorem Play.below {W : World} {S L : Nat} {f : Nat → Nat} {T : Nat → Tr (Int × Int)} {av : Nat → Option Addr} {cp : Nat → Nat} (h : Play W S L f T av cp) : ∀ b, plX S L f b → b < W.heap.size := by
  intro b hb
  rcases hb with rfl | rfl | ⟨k, hk, rfl⟩
  · exact h.s.lt
  · exact h.l.lt
  · exact (h.shf k hk).lt
theorem Play.later {W W' : World} {S L : Nat} {f : Nat → Nat} {T : Nat → Tr (Int × Int)} {av : Nat → Option Addr} {cp : Nat → Nat} (h : Play W S L f T av cp) (k : Later W W') : Play W' S L f T av cp :=
  ⟨h.s.later k, h.l.later k, fun i hi => (h.shf i hi).later k, h.rise, fun i hi => (h.sl i hi).later k, fun i hi b o e => ⟨Nat.lt_of_lt_of_le (h.off i hi b o e).1 k.size, (h.off i hi b o e).2⟩, h.dist, h.away, h.ne⟩
/-- one Shelf has changed, by a call on it; its list is laid down anew: in either order -/
def upd {α : Type} (f : Nat → α) (m : Nat) (x : α) : Nat → α := fun j => if j = m then x else f j
theorem upd_self {α : Type} (f : Nat → α) (m : Nat) (x : α) : upd f m x m = x := by simp [upd]
theorem upd_other {α : Type} (f : Nat → α) {m j : Nat} (x : α) (h : j ≠ m) : upd f m x j = f j := by simp [upd, h]
/-- the list first: a new slice at place m; then the Shelf's own call -/
theorem Play.put {W W1 W2 : World} {S L m cp' : Nat} {f : Nat → Nat} {T : Nat → Tr (Int × Int)} {av : Nat → Option Addr} {cp : Nat → Nat} {A' : Option Addr} {T' : Tr (Int × Int)} (h : Play W S L f T av cp) (hm : m < 3)
    (hl : SliceAt W A' cp' T'.list) (ho : ∀ b o, A' = some ⟨b, o, none⟩ → b < W.heap.size ∧ ¬ plX S L f b) (hr : Rises cmpR T'.list) (e1 : Later (W.setCell ⟨L, m, none⟩ (.slice A' T'.list.length cp')) W1)
    (hs : Shf (plX S L f) W2 (f m) 45 T') (k : Chg (only (f m)) W1 W2) : Play W2 S L f (upd T m T') (upd av m A') (upd cp m cp') := by
  have k0 : Chg (plX S L f) W (W.setCell ⟨L, m, none⟩ (.slice A' T'.list.length cp')) := Chg.set _ _ (.inr (.inl rfl))
  have kL : Chg (only L) W (W.setCell ⟨L, m, none⟩ (.slice A' T'.list.length cp')) := Chg.set _ _ rfl
  have hX : ∀ b, only (f m) b → plX S L f b := fun b hb => .inr (.inr ⟨m, hm, hb⟩)
  have kk : Chg (plX S L f) W W2 := (k0.trans e1.chg).trans (k.mono hX)
  have hL : ¬ only (f m) L := fun e => (h.away m hm).2 e.symm
  have hS : ¬ only (f m) S := fun e => (h.away m hm).1 e.symm
  refine ⟨?_, ?_, fun i hi => ?_, fun i hi => ?_, fun i hi => ?_, fun i hi b o e => ?_, h.dist, h.away, h.ne⟩
  · exact ((h.s.keep kL (fun e => h.ne e)).later e1).keep k hS
  · refine (((h.l.set hm (.slice A' T'.list.length cp')).later e1).keep k hL).congr fun j hj => ?_
    by_cases e : j = m
    · subst e; simp [upd]
    · simp [upd, e]
  · by_cases e : i = m
    · subst e; rw [upd_self]; exact hs
    · rw [upd_other _ _ e]
      have a1 := (h.shf i hi).keep kL (fun b hb => .inr (.inl hb)) (fun e' => (h.away i hi).2 e')
      exact (a1.later e1).keep k hX (fun e' => e (h.dist i m hi hm e'))
  · by_cases e : i = m
    · subst e; rw [upd_self]; exact hr
    · rw [upd_other _ _ e]; exact h.rise i hi
  · by_cases e : i = m
    · subst e; rw [upd_self, upd_self, upd_self]
      exact hl.chg kk (fun b o e _ => (ho b o e).2)
    · rw [upd_other _ _ e, upd_other _ _ e, upd_other _ _ e]
      exact (h.sl i hi).chg kk (fun b o e _ => (h.off i hi b o e).2)
  · by_cases e' : i = m
    · subst e'; rw [upd_self] at e
      exact ⟨Nat.lt_of_lt_of_le (ho b o e).1 kk.size, (ho b o e).2⟩
    · rw [upd_other _ _ e'] at e
      exact ⟨Nat.lt_of_lt_of_le (h.off i hi b o e).1 kk.size, (h.off i hi b o e).2⟩
/-- a copy takes the place of another one -/
theorem Play.copy {W W2 : World} {S L m to nb : Nat} {f : Nat → Nat} {T : Nat → Tr (Int × Int)} {av : Nat → Option Addr} {cp : Nat → Nat} (h : Play W S L f T av cp) (hm : m < 3) (ht : to < 3) (l2 : Later W W2) (hn : W.heap.size ≤ nb)
    (hs : Shf (fun b => plX S L f b ∨ W.heap.size ≤ b) W2 nb 45 (T m)) : Play ((W2.setCell ⟨S, to, none⟩ (.pointer (some ⟨nb, 0, none⟩))).setCell ⟨L, to, none⟩ (.slice (av m) (T m).list.length (cp m))) S L (upd f to nb) (upd T to (T m)) (upd av to (av m)) (upd cp to (cp m)) := by
  have hX' : ∀ b, plX S L (upd f to nb) b → plX S L f b ∨ W.heap.size ≤ b := by
    intro b hb
    rcases hb with rfl | rfl | ⟨k, hk, rfl⟩
    · exact .inl (.inl rfl)
    · exact .inl (.inr (.inl rfl))
    · by_cases e : k = to
      · subst e; rw [upd_self]; exact .inr hn
      · rw [upd_other _ _ e]; exact .inl (.inr (.inr ⟨k, hk, rfl⟩))
  have kS : Chg (only S) W2 (W2.setCell ⟨S, to, none⟩ (.pointer (some ⟨nb, 0, none⟩))) := Chg.set _ _ rfl
  have kL : Chg (only L) (W2.setCell ⟨S, to, none⟩ (.pointer (some ⟨nb, 0, none⟩))) ((W2.setCell ⟨S, to, none⟩ (.pointer (some ⟨nb, 0, none⟩))).setCell ⟨L, to, none⟩ (.slice (av m) (T m).list.length (cp m))) := Chg.set _ _ rfl
  have oS : ∀ b, only S b → plX S L (upd f to nb) b := fun b e => .inl e
  have oL : ∀ b, only L b → plX S L (upd f to nb) b := fun b e => .inr (.inl e)
  have kk := (kS.mono oS).trans (kL.mono oL)
  have haw : ∀ k, k < 3 → upd f to nb k ≠ S ∧ upd f to nb k ≠ L := fun k hk => by
    have h1 := h.s.lt
    have h2 := h.l.lt
    by_cases e : k = to
    · subst e; rw [upd_self]; exact ⟨by omega, by omega⟩
    · rw [upd_other _ _ e]; exact h.away k hk
  have hsl : ∀ k, k < 3 → ∀ b o, av k = some ⟨b, o, none⟩ → b < W.heap.size ∧ ¬ plX S L (upd f to nb) b := fun k hk b o e => by
    obtain ⟨h1, h2⟩ := h.off k hk b o e
    exact ⟨h1, fun hb => (hX' b hb).elim h2 (fun h3 => by omega)⟩
  have hsz : W.heap.size ≤ ((W2.setCell ⟨S, to, none⟩ (.pointer (some ⟨nb, 0, none⟩))).setCell ⟨L, to, none⟩ (.slice (av m) (T m).list.length (cp m))).heap.size := Nat.le_trans l2.size kk.size
  have hnb := hs.lt
  have hflt : ∀ k, k < 3 → f k < W.heap.size := fun k hk => (h.shf k hk).lt
  refine ⟨?_, ?_, fun i hi => ?_, fun i hi => ?_, fun i hi => ?_, fun i hi b o e => ?_, fun i j hi hj e => ?_, haw, h.ne⟩
  · refine (((h.s.later l2).set ht (.pointer (some ⟨nb, 0, none⟩))).keep kL (fun e => h.ne e)).congr fun j hj => ?_
    by_cases e : j = to
    · subst e; simp [upd]
    · simp [upd, e]
  · refine (((h.l.later l2).keep kS (fun e => h.ne e.symm)).set ht (.slice (av m) (T m).list.length (cp m))).congr fun j hj => ?_
    by_cases e : j = to
    · subst e; simp [upd]
    · simp [upd, e]
  · have hbase : Shf (plX S L (upd f to nb)) W2 (upd f to nb i) 45 (upd T to (T m) i) := by
      by_cases e : i = to
      · subst e; rw [upd_self, upd_self]; exact hs.more fun b hb _ => hX' b hb
      · rw [upd_other _ _ e, upd_other _ _ e]
        exact ((h.shf i hi).more (Y := plX S L (upd f to nb)) fun b hb hlt => (hX' b hb).resolve_right (by omega)).later l2
    exact (hbase.keep kS oS (fun e => (haw i hi).1 e)).keep kL oL (fun e => (haw i hi).2 e)
  · by_cases e : i = to
    · subst e; rw [upd_self]; exact h.rise m hm
    · rw [upd_other _ _ e]; exact h.rise i hi
  · by_cases e : i = to
    · subst e; rw [upd_self, upd_self, upd_self]
      exact ((h.sl m hm).later l2).chg kk (fun b o e _ => (hsl m hm b o e).2)
    · rw [upd_other _ _ e, upd_other _ _ e, upd_other _ _ e]
      exact ((h.sl i hi).later l2).chg kk (fun b o e _ => (hsl i hi b o e).2)
  · by_cases e' : i = to
    · subst e'; rw [upd_self] at e
      exact ⟨Nat.lt_of_lt_of_le (hsl m hm b o e).1 hsz, (hsl m hm b o e).2⟩
    · rw [upd_other _ _ e'] at e
      exact ⟨Nat.lt_of_lt_of_le (hsl i hi b o e).1 hsz, (hsl i hi b o e).2⟩
  · by_cases e1 : i = to
    · by_cases e2 : j = to
      · rw [e1, e2]
      · subst e1; rw [upd_self, upd_other _ _ e2] at e; have := hflt j hj; omega
    · by_cases e2 : j = to
      · subst e2; rw [upd_self, upd_other _ _ e1] at e; have := hflt i hi; omega
      · rw [upd_other _ _ e1, upd_other _ _ e2] at e; exact h.dist i j hi hj e
end Go.Proofs.Yteledidnhjioaaa.Sh
namespace Go.Proofs.Yteledidnhjioaaa.Sh
open Go.RowKit Go.Lib Go.Proofs Go.Shelf
set_option linter.unusedVariables false
set_option linter.unusedSimpArgs false
def subA (A : Option Addr) (cap R : Nat) : Option Addr := if cap = R then A else A.map fun a => a.add (R * 2)
set_option maxRecDepth 100000 in
set_option maxHeartbeats 2000000 in
/-- From of a list: the very slice -/
theorem from_ref2 (x : Int × Int) {l : List (Int × Int)} {w : World} {A : Option Addr} {cap : Nat} (h0 : A = none → cap = 0) (hl : SliceAt w A cap l) :
    Calls Try.prog 29 #[.slice A l.length cap, .agg #[.int .i64 x.1, .int .i64 x.2]] w fun e w' => e = .returned (.slice (subA A cap (rankL cmpR x l)) (l.drop (rankL cmpR x l)).length (cap - rankL cmpR x l)) ∧ Later w w' := by
  have hB : Later w (w.alloc (.cells #[.int .i64 x.1, .int .i64 x.2] 27)) := Later.two
  have hxx := two_new w (.int .i64 x.1) (.int .i64 x.2) 27
  have hk := rank_ref x (hl.later hB)
  have hle : rankL cmpR x l ≤ l.length := by have := rankL_take (c := cmpR) x l l.length; rwa [List.take_length] at this
  go_enter Try.func29, Try.ntmps29
  obtain ⟨R, hR⟩ : ∃ R, rankL cmpR x l = R := ⟨_, rfl⟩
  rw [hR] at hk hle ⊢
  have hcap := hl.1
  have hmax := hl.2.1
  go_wp2_with fail
  go_at_call 66; refine hk.mono ?_; rintro e W1 ⟨rfl, l1⟩
  have hW := hB.next l1
  rcases A with _ | a
  · obtain rfl := h0 rfl
    have hnil : l = [] := List.length_eq_zero_iff.1 (by omega)
    subst hnil
    obtain rfl : R = 0 := by simpa using hle
    clear hR hl hB hxx hk
    go_wp2_with fail
    go_ret
    exact ⟨rfl, hW⟩
  · by_cases hc : cap = R
    · subst hc
      have hlc : l.length = cap := by omega
      have hd : l.drop cap = [] := List.drop_eq_nil_of_le (by omega)
      go_wp2_with fail
      go_ret
      exact ⟨by rw [hd, subA, if_pos rfl]; simp, hW⟩
    · go_wp2_with fail
      go_ret
      exact ⟨by rw [List.length_drop, subA, if_neg hc]; rfl, hW⟩
theorem from_at2 (x : Int × Int) {l : List (Int × Int)} {w : World} {A : Option Addr} {cap : Nat} (h0 : A = none → cap = 0) (hl : SliceAt w A cap l) : SliceAt w (subA A cap (rankL cmpR x l)) (cap - rankL cmpR x l) (l.drop (rankL cmpR x l)) := by
  have hle : rankL cmpR x l ≤ l.length := by have := rankL_take (c := cmpR) x l l.length; rwa [List.take_length] at this
  have hcap := hl.1
  have hmax := hl.2.1
  refine ⟨by rw [List.length_drop]; omega, by rw [List.length_drop]; omega, fun i z hz => ?_⟩
  have hi : i < (l.drop (rankL cmpR x l)).length := (List.getElem?_eq_some_iff.1 hz).1
  rw [List.length_drop] at hi
  rw [List.getElem?_drop] at hz
  obtain ⟨b, o, e, k0, k1⟩ := hl.2.2 _ _ hz
  refine ⟨b, o + rankL cmpR x l * 2, ?_, ?_, ?_⟩
  · rw [subA, if_neg (by omega), e]; show some (Addr.add _ _) = _; rw [addr_plus]
  · rw [show o + rankL cmpR x l * 2 + i * 2 = o + (rankL cmpR x l + i) * 2 by omega]; exact k0
  · rw [show o + rankL cmpR x l * 2 + i * 2 = o + (rankL cmpR x l + i) * 2 by omega]; exact k1
end Go.Proofs.Yteledidnhjioaaa.Sh
namespace Go.Proofs.Yteledidnhjioaaa.Sh
open Go.RowKit Go.Lib Go.Proofs Go.Shelf
set_option linter.unusedVariables false
set_option linter.unusedSimpArgs false
theorem chg_put {X : Nat → Prop} (W : World) (l : Nat) (o : Obj) (h : X l) : Chg X W (W.putObj l o) :=
  have hg := grownBy_putObj' W l o
  ⟨hg.os, hg.tape, hg.output, hg.size, fun k hk hx => hg.block k hk (fun e => by cases e; exact hx h)⟩
theorem kf_later {B : Nat} {W W' : World} (h : Later W W') : KeepsFrom B W W' := ⟨h.size, fun k o _ ho _ => (h.block k (Array.getElem?_eq_some_iff.1 ho).1).trans ho⟩
theorem kf_later_set {B : Nat} {W W' : World} (h : Later W W') (b : Nat) (v : Value) : KeepsFrom B W (W'.setCell ⟨b, 0, none⟩ v) :=
  (kf_later h).trans ((KeepsOthers.setCell _ _ _).from _)
theorem ownFrom_chg {β : Type} {X : Nat → Prop} {B : Nat} {w0 : World} (hB : w0.heap.size ≤ B) : OwnFrom B (fun (_ : β) W => Chg X w0 W) := fun _ W W' row hs hg hr =>
  ⟨hg.os.trans hs.os, hg.tape.trans hs.tape, hg.output.trans hs.output, Nat.le_trans hs.size hg.size, fun k hk hx => (hg.block k (Nat.lt_of_lt_of_le hk hs.size) (fun e => by have := (hr k e.symm).1; omega)).trans (hs.block k hk hx)⟩
theorem ownFrom_or {β : Type} {B : Nat} {I I' : β → World → Prop} (h : OwnFrom B I) (h' : OwnFrom B I') : OwnFrom B (fun s W => I s W ∨ I' s W) := fun s W W' row hs hg hr => hs.imp (fun k => h s W W' row k hg hr) (fun k => h' s W W' row k hg hr)
abbrev pairV (x : Int × Int) : Value := .agg #[.int .i64 x.1, .int .i64 x.2]
abbrev inTmps (a : Act) (p q : Nat) (x : Int × Int) (Bx : Nat) : Act := { tmps := (a.tmps.setIfInBounds p (pairV x)).setIfInBounds q (.pointer (some ⟨Bx, 0, none⟩)), defers := [] }
/-- a range over a sequence of pairs, whose variable is boxed; left early or not, what follows is shown once -/
theorem block_range {e p : Nat} {g : Operand} {assign body : Code} {Q : Exit → Act → World → Prop} {a : Act} {w w0 : World} {X : Nat → Prop} {gf : Nat} {lb : Array Value} {xs : List (Int × Int)} (q : Nat)
    (hg : a.eval g = .func (.func gf) #[] lb) (eg : ∀ args w, (callFunc gf args).run Try.prog w = .ok (.enter gf args) w) (hseq : SeqT X gf lb xs w0) (hb0 : Below w0.heap.size w0 w) (hX : ∀ b, w.heap.size ≤ b → X b)
    (I : List (Int × Int) → World → Prop) (Ix : Code → List (Int × Int) → World → Prop) (hI : OwnFrom w.heap.size I) (hIx : ∀ c, OwnFrom w.heap.size (Ix c)) (h0 : I [] w)
    (hsz : ∀ pre W, I pre W → w.heap.size ≤ W.heap.size) (hend : ∀ c pre W, Ix c pre W → pre <+: xs → c = .exit e)
    (hassign : ∀ (l : Nat) (x : Int × Int) (W : World) (K : Act → World → Prop), K (inTmps a p q x W.heap.size) (W.alloc (.cells #[.int .i64 x.1, .int .i64 x.2] 27)) →
      assign.wpIn (FW.inRound l) 1 Try.prog (Exit.then K (fun _ _ _ => False)) { tmps := a.tmps.setIfInBounds p (pairV x), defers := [] } W)
    (hbody : ∀ (l : Nat) (pre : List (Int × Int)) (x : Int × Int) (Bx : Nat) (W : World), I pre W → Boxed2 W Bx (.int .i64 x.1) (.int .i64 x.2) → w.heap.size ≤ Bx → pre.length < xs.length →
      body.wpIn (FW.inRound l) 1 Try.prog (ownPostG w.heap.size (Chg X) I Ix (pre ++ [x]) W) (inTmps a p q x Bx) W)
    (hnext : ∀ (D : Nat) (W : World), w.heap.size ≤ D → W.heap[D]? = some (.deferred (some [])) → (I xs W ∨ ∃ pre, Ix (.exit e) pre W) → Q .normal { a with defers := { target := .collected D, args := #[] } :: a.defers } W) :
    (Code.block e (Code.rangeFunc g #[p] assign body)).wp Try.prog Q a w := by
  refine wp_block ((wpIn_wide (n := 3)).1 ?_)
  refine wpIn_rangeFunc_ownH (F := Fence.wide) (n := 3) (encs := encP) (w0 := w0) rfl (by omega) hg trivial eg (hseq 2) (fun h k => h.trans k) (fun W l o o' hl _ _ _ => chg_put W l o' (hX l hl)) hb0 (fun _ => rfl) I Ix hI hIx h0
    (fun x a' W => ∃ Bx, w.heap.size ≤ Bx ∧ Boxed2 W Bx (.int .i64 x.1) (.int .i64 x.2) ∧ a' = inTmps a p q x Bx)
    (fun x a' _ X Y row hs hg hr => by obtain ⟨Bx, h1, h2, h3⟩ := hs; exact ⟨Bx, h1, boxed2_own Bx (fun (_ : Unit) => Value.int .i64 x.1) (fun (_ : Unit) => Value.int .i64 x.2) () X Y row h2 hg (fun r e => (hr r e).2), h3⟩)
    ?assign ?body ?done ?stop
  case assign =>
    intro l pre x W K hi hK
    have hz : (#[p].zip (encP x)) = #[(p, pairV x)] := by apply Array.ext'; simp [encP]
    have hf : (#[p].zip (encP x)).foldl (fun t (p, v) => t.setIfInBounds p v) a.tmps = a.tmps.setIfInBounds p (pairV x) := by rw [hz]; simp
    rw [hf]
    refine hassign l x W K ?_
    exact hK _ _ (kf_later ((Later.refl W).alloc _)) (Later.chg ((Later.refl W).alloc _)) (hI.alloc _ hi) ⟨W.heap.size, hsz _ _ hi, Boxed2.new W _ _, rfl⟩
  case body =>
    rintro l pre x a' W hl hr hi ⟨Bx, hBx, hX2, rfl⟩ hlt
    exact hbody l pre x Bx W hi hX2 hBx hlt
  case done =>
    rintro D ys W hD rfl hi hK
    exact hnext D W hD hK (.inl hi)
  case stop =>
    rintro D c pre W hD hpre hx hK
    obtain rfl := hend c pre W hx hpre
    refine wpIn_exit ?_
    show (if e = e then _ else _ : Prop)
    rw [if_pos rfl]
    exact hnext D W hD hK (.inr ⟨pre, hx⟩)
theorem ownFrom_at {β : Type} {D B : Nat} {o : Obj} (hD : D < B) : OwnFrom B (fun (_ : β) W => W.heap[D]? = some o) := fun _ W W' row hs hg hr =>
  (hg.block D (Array.getElem?_eq_some_iff.1 hs).1 (fun e => by have := (hr D e.symm).1; omega)).trans hs
theorem told_from {X : Nat → Prop} {w : World} {c bt cb xb n : Nat} {f : (Int × Int) → (Int × Int) → Int} (hc : Comp c f) {x : Int × Int} {T : Tr (Int × Int)} {A : Option Addr} {cap : Nat} {want : List (Int × Int)} (h : FromAt X w c bt cb xb x T) (hw : SliceAt w A cap want) (hn : want.length = n) (hz : T.size ≤ 4611686018427387904)
    (he : (T.from_ fun y => decide (f y x < 0)) = want) : Calls Try.prog 25 #[fromV bt cb xb, .slice A n cap] w fun e w' => e = .returned (.bool true) ∧ Later w w' := by
  obtain ⟨p, hb, ht⟩ := h.tree
  have h1 := cell_lt h.cmp
  have h2 := cell_lt h.x0
  have k := told_any (want := want) (from_seq hc x hb (ht.more (Y := fresh w) (fun b h1 h2 => by have : w.heap.size ≤ b := h1; omega)) h.cmp h.x0 h.x1 (fun e => by have : w.heap.size ≤ cb := e; omega) (fun e => by have : w.heap.size ≤ xb := e; omega)) enters64 hw (Nat.le_trans (Tr.from_length_le T) hz)
  rw [decide_eq_true he, hn] at k
  exact k
end Go.Proofs.Yteledidnhjioaaa.Sh
