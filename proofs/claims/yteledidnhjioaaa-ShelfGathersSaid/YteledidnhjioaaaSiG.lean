import Derived.Test.YteledidnhjioaaaSiE
namespace Go.Proofs.Yteledidnhjioaaa.Sh
open Go.RowKit Go.Lib Go.Proofs Go.Shelf
set_option linter.unusedVariables false
set_option linter.unusedSimpArgs false
theorem chg_put {X : Nat → Prop} (W : World) (l : Nat) (o : Obj) (h : X l) : Chg X W (W.putObj l o) :=
  have hg := grownBy_putObj' W l o
  ⟨hg.os, hg.tape, hg.output, hg.size, fun k hk hx => hg.block k hk (fun e => by cases e; exact hx h)⟩
theorem kf_later {B : Nat} {W W' : World} (h : Later W W') : KeepsFrom B W W' := ⟨h.size, fun k o _ ho _ => (h.block k (Array.getElem?_eq_some_iff.1 ho).1).trans ho⟩
theorem kf_later_set {B : Nat} {W W' : World} (h : Later W W') (b : Nat) (v : Value) : KeepsFrom B W (W'.setCell ⟨b, 0, none⟩ v) :=
  (kf_later h).trans ((KeepsOthers.setCell _ _ _).from _)
theorem ownFrom_chg {β : Type} {X : Nat → Prop} {B : Nat} {w0 : World} (hB : w0.heap.size ≤ B) : OwnFrom B (fun (_ : β) W => Chg X w0 W) := fun _ W W' row hs hg hr =>
  ⟨hg.os.trans hs.os, hg.tape.trans hs.tape, hg.output.trans hs.output, Nat.le_trans hs.size hg.size, fun k hk hx => (hg.block k (Nat.lt_of_lt_of_le hk hs.size) (fun e => by have := (hr k e.symm).1; omega)).trans (hs.block k hk hx)⟩
theorem ownFrom_or {β : Type} {B : Nat} {I I' : β → World → Prop} (h : OwnFrom B I) (h' : OwnFrom B I') : OwnFrom B (fun s W => I s W ∨ I' s W) := fun s W W' row hs hg hr => hs.imp (fun k => h s W W' row k hg hr) (fun k => h' s W W' row k hg hr)
abbrev pairV (x : Int × Int) : Value := .agg #[.int .i64 x.1, .int .i64 x.2]
abbrev inTmps (a : Act) (p q : Nat) (x : Int × Int) (Bx : Nat) : Act := { tmps := (a.tmps.setIfInBounds p (pairV x)).setIfInBounds q (.pointer (some ⟨Bx, 0, none⟩)), defers := [] }
/-- a range over a sequence of pairs, whose variable is boxed; left early or not, what follows is shown once -/
theorem block_range {e p : Nat} {g : Operand} {assign body : Code} {Q : Exit → Act → World → Prop} {a : Act} {w w0 : World} {X : Nat → Prop} {gf : Nat} {lb : Array Value} {xs : List (Int × Int)} (q : Nat)
    (hg : a.eval g = .func (.func gf) #[] lb) (eg : ∀ args w, (callFunc gf args).run Try.prog w = .ok (.enter gf args) w) (hseq : SeqT X gf lb xs w0) (hb0 : Below w0.heap.size w0 w) (hX : ∀ b, w.heap.size ≤ b → X b)
    (I : List (Int × Int) → World → Prop) (Ix : Code → List (Int × Int) → World → Prop) (hI : OwnFrom w.heap.size I) (hIx : ∀ c, OwnFrom w.heap.size (Ix c)) (h0 : I [] w)
    (hsz : ∀ pre W, I pre W → w.heap.size ≤ W.heap.size) (hend : ∀ c pre W, Ix c pre W → pre <+: xs → c = .exit e)
    (hassign : ∀ (l : Nat) (x : Int × Int) (W : World) (K : Act → World → Prop), K (inTmps a p q x W.heap.size) (W.alloc (.cells #[.int .i64 x.1, .int .i64 x.2] 27)) →
      assign.wpIn (FW.inRound l) 1 Try.prog (Exit.then K (fun _ _ _ => False)) { tmps := a.tmps.setIfInBounds p (pairV x), defers := [] } W)
    (hbody : ∀ (l : Nat) (pre : List (Int × Int)) (x : Int × Int) (Bx : Nat) (W : World), I pre W → Boxed2 W Bx (.int .i64 x.1) (.int .i64 x.2) → w.heap.size ≤ Bx → pre.length < xs.length →
      body.wpIn (FW.inRound l) 1 Try.prog (ownPostG w.heap.size (Chg X) I Ix (pre ++ [x]) W) (inTmps a p q x Bx) W)
    (hnext : ∀ (D : Nat) (W : World), w.heap.size ≤ D → W.heap[D]? = some (.deferred (some [])) → (I xs W ∨ ∃ pre, Ix (.exit e) pre W) → Q .normal { a with defers := { target := .collected D, args := #[] } :: a.defers } W) :
    (Code.block e (Code.rangeFunc g #[p] assign body)).wp Try.prog Q a w := by
  refine wp_block ((wpIn_wide (n := 3)).1 ?_)
  refine wpIn_rangeFunc_ownH (F := Fence.wide) (n := 3) (encs := encP) (w0 := w0) rfl (by omega) hg trivial eg (hseq 2) (fun h k => h.trans k) (fun W l o o' hl _ _ _ => chg_put W l o' (hX l hl)) hb0 (fun _ => rfl) I Ix hI hIx h0
    (fun x a' W => ∃ Bx, w.heap.size ≤ Bx ∧ Boxed2 W Bx (.int .i64 x.1) (.int .i64 x.2) ∧ a' = inTmps a p q x Bx)
    (fun x a' _ X Y row hs hg hr => by obtain ⟨Bx, h1, h2, h3⟩ := hs; exact ⟨Bx, h1, boxed2_own Bx (fun (_ : Unit) => Value.int .i64 x.1) (fun (_ : Unit) => Value.int .i64 x.2) () X Y row h2 hg (fun r e => (hr r e).2), h3⟩)
    ?assign ?body ?done ?stop
  case assign =>
    intro l pre x W K hi hK
    have hz : (#[p].zip (encP x)) = #[(p, pairV x)] := by apply Array.ext'; simp [encP]
    have hf : (#[p].zip (encP x)).foldl (fun t (p, v) => t.setIfInBounds p v) a.tmps = a.tmps.setIfInBounds p (pairV x) := by rw [hz]; simp
    rw [hf]
    refine hassign l x W K ?_
    exact hK _ _ (kf_later ((Later.refl W).alloc _)) (Later.chg ((Later.refl W).alloc _)) (hI.alloc _ hi) ⟨W.heap.size, hsz _ _ hi, Boxed2.new W _ _, rfl⟩
  case body =>
    rintro l pre x a' W hl hr hi ⟨Bx, hBx, hX2, rfl⟩ hlt
    exact hbody l pre x Bx W hi hX2 hBx hlt
  case done =>
    rintro D ys W hD rfl hi hK
    exact hnext D W hD hK (.inl hi)
  case stop =>
    rintro D c pre W hD hpre hx hK
    obtain rfl := hend c pre W hx hpre
    refine wpIn_exit ?_
    show (if e = e then _ else _ : Prop)
    rw [if_pos rfl]
    exact hnext D W hD hK (.inr ⟨pre, hx⟩)
theorem ownFrom_at {β : Type} {D B : Nat} {o : Obj} (hD : D < B) : OwnFrom B (fun (_ : β) W => W.heap[D]? = some o) := fun _ W W' row hs hg hr =>
  (hg.block D (Array.getElem?_eq_some_iff.1 hs).1 (fun e => by have := (hr D e.symm).1; omega)).trans hs
theorem told_from {X : Nat → Prop} {w : World} {c bt cb xb n : Nat} {f : (Int × Int) → (Int × Int) → Int} (hc : Comp c f) {x : Int × Int} {T : Tr (Int × Int)} {A : Option Addr} {cap : Nat} {want : List (Int × Int)} (h : FromAt X w c bt cb xb x T) (hw : SliceAt w A cap want) (hn : want.length = n) (hz : T.size ≤ 4611686018427387904)
    (he : (T.from_ fun y => decide (f y x < 0)) = want) : Calls Try.prog 25 #[fromV bt cb xb, .slice A n cap] w fun e w' => e = .returned (.bool true) ∧ Later w w' := by
  obtain ⟨p, hb, ht⟩ := h.tree
  have h1 := cell_lt h.cmp
  have h2 := cell_lt h.x0
  have k := told_any (want := want) (from_seq hc x hb (ht.more (Y := fresh w) (fun b h1 h2 => by have : w.heap.size ≤ b := h1; omega)) h.cmp h.x0 h.x1 (fun e => by have : w.heap.size ≤ cb := e; omega) (fun e => by have : w.heap.size ≤ xb := e; omega)) enters64 hw (Nat.le_trans (Tr.from_length_le T) hz)
  rw [decide_eq_true he, hn] at k
  exact k
end Go.Proofs.Yteledidnhjioaaa.Sh
