import Derived.Test.YtlhhpdomiioeiaaGreatDoorProg
import Derived.WalkKit
import Derived.ProofKit
import Derived.OpenShut
import Derived.ShutString
import Derived.ChangeOld
import Derived.Below
import Derived.SizedLaws
import Derived.WalkLawsBesides
import Derived.WalkSpells
import Derived.LoopTactic
import Derived.Outline
import Derived.Deep.LoopGhost
import Derived.KernelRfl
import Derived.OwnWalk
import Derived.Lib.Hide
import Derived.IntWalk
import Derived.Deep.RegionHeld3
import Derived.BigRegion
import Derived.RegionTactic
import Derived.StillTailTactics
import Derived.Laws.EntriesVeiled
import Derived.Deep.DeepAppendWide
import Derived.Maps.AppendAt
import Derived.Deep.DeepCutAuto
import Derived.Deep.CutBlock
import Derived.RangeFuncNested
import Derived.Deep.Quiet
import Derived.BigQuiet
import Derived.Laws.BitsAllLaws
import Derived.Laws.FloatArith
import Derived.Laws.StructEq
import Derived.ChangeArms
import Derived.DataElems
import Derived.Lib.Strings
namespace Go.Proofs.YtlhhpdomiioeiaaGreatDoor.Tu
open Go.ChangeShapes Go.WideShapes Go.ChangeAt Go.RowKit Go.Lib Go.Proofs
set_option linter.unusedVariables false
set_option linter.unusedSimpArgs false
section
variable {H : Type} {enc : TypeId × Value → H} {P : Program} {w : World} {base : Nat} {spare : Nat → Bool} {held : Bool} {fuel : Nat} {cs : List Value} {x : DataW H × List MemPlace}
theorem trod_slice_form {t e : TypeId} (ht : P.underlying t = some (.slice e)) (h : DataW.trod enc P w base spare held fuel t cs = some x) : ∃ a n c, cs = [.slice a n c] := by
  cases fuel with
  | zero => simp [DataW.trod] at h
  | succ m =>
    unfold DataW.trod at h
    rw [ht] at h
    split at h <;> simp_all
end
set_option maxRecDepth 1000000 in
theorem open23 {H : Type} {enc : TypeId × Value → H} {w : World} {base : Nat} {spare : Nat → Bool} {held : Bool} {fuel : Nat} {cs : List Value} {x : DataW H × List MemPlace} (h : DataW.trod enc Tryz.prog w base spare held fuel 25 cs = some x) :
    ∃ (s0 : ByteArray) (s1 : ByteArray) (s2 : ByteArray), cs = [.string s0, .string s1, .string s2] ∧ x.1 = (.agg [.lit (.string s0.data.toList), .lit (.string s1.data.toList), .lit (.string s2.data.toList)]) := by
  obtain ⟨xs, n, _, rfl, hlen, hxl, hf⟩ := DataW.trod_struct Tryz.underlying25 h
  have hC : Tryz.prog.cellsOf 25 = 3 := by kernel_rfl
  rw [hC] at hlen
  match xs, hxl, cs, hlen with
  | [y0, y1, y2], _, [c0, c1, c2], _ =>
    have g0 : DataW.trod enc Tryz.prog w base spare held n 9 [c0] = some y0 := by simpa [show Tryz.prog.cellsOf 9 = 1 from by kernel_rfl] using hf 0 _ rfl
    obtain ⟨s0, e0, r0, _⟩ := DataW.trod_string Tryz.underlying9 g0
    simp only [List.cons.injEq, and_true] at e0
    subst e0
    subst r0
    have g1 : DataW.trod enc Tryz.prog w base spare held n 9 [c1] = some y1 := by simpa [show Tryz.prog.cellsOf 9 = 1 from by kernel_rfl] using hf 1 _ rfl
    obtain ⟨s1, e1, r1, _⟩ := DataW.trod_string Tryz.underlying9 g1
    simp only [List.cons.injEq, and_true] at e1
    subst e1
    subst r1
    have g2 : DataW.trod enc Tryz.prog w base spare held n 9 [c2] = some y2 := by simpa [show Tryz.prog.cellsOf 9 = 1 from by kernel_rfl] using hf 2 _ rfl
    obtain ⟨s2, e2, r2, _⟩ := DataW.trod_string Tryz.underlying9 g2
    simp only [List.cons.injEq, and_true] at e2
    subst e2
    subst r2
    exact ⟨s0, s1, s2, rfl, by simp⟩

set_option maxRecDepth 1000000 in
theorem open27 {H : Type} {enc : TypeId × Value → H} {w : World} {base : Nat} {spare : Nat → Bool} {held : Bool} {fuel : Nat} {cs : List Value} {x : DataW H × List MemPlace} (h : DataW.trod enc Tryz.prog w base spare held fuel 23 cs = some x) :
    ∃ (s0 : ByteArray) (s1 : ByteArray), cs = [.string s0, .string s1] ∧ x.1 = (.agg [.lit (.string s0.data.toList), .lit (.string s1.data.toList)]) := by
  obtain ⟨xs, n, _, rfl, hlen, hxl, hf⟩ := DataW.trod_struct Tryz.underlying23 h
  have hC : Tryz.prog.cellsOf 23 = 2 := by kernel_rfl
  rw [hC] at hlen
  match xs, hxl, cs, hlen with
  | [y0, y1], _, [c0, c1], _ =>
    have g0 : DataW.trod enc Tryz.prog w base spare held n 9 [c0] = some y0 := by simpa [show Tryz.prog.cellsOf 9 = 1 from by kernel_rfl] using hf 0 _ rfl
    obtain ⟨s0, e0, r0, _⟩ := DataW.trod_string Tryz.underlying9 g0
    simp only [List.cons.injEq, and_true] at e0
    subst e0
    subst r0
    have g1 : DataW.trod enc Tryz.prog w base spare held n 9 [c1] = some y1 := by simpa [show Tryz.prog.cellsOf 9 = 1 from by kernel_rfl] using hf 1 _ rfl
    obtain ⟨s1, e1, r1, _⟩ := DataW.trod_string Tryz.underlying9 g1
    simp only [List.cons.injEq, and_true] at e1
    subst e1
    subst r1
    exact ⟨s0, s1, rfl, by simp⟩

set_option maxRecDepth 1000000 in
theorem open30 {H : Type} {enc : TypeId × Value → H} {w : World} {base : Nat} {spare : Nat → Bool} {held : Bool} {fuel : Nat} {cs : List Value} {x : DataW H × List MemPlace} (h : DataW.trod enc Tryz.prog w base spare held fuel 29 cs = some x) :
    ∃ (s0 : ByteArray) (s1 : ByteArray) (s2 : ByteArray) (s3 : ByteArray) (s4 : ByteArray) (s5 : ByteArray) (s6 : ByteArray) (a7 : Option Addr) (n7 c7 : Nat) (m7 : Nat) (Y7 : DataW H × List MemPlace), cs = [.string s0, .string s1, .string s2, .string s3, .string s4, .string s5, .string s6, .slice a7 n7 c7] ∧ x.1 = (.agg [(.agg [.lit (.string s0.data.toList), .lit (.string s1.data.toList)]), .lit (.string s2.data.toList), (.agg [.lit (.string s3.data.toList), .lit (.string s4.data.toList), .lit (.string s5.data.toList)]), .lit (.string s6.data.toList), Y7.1]) ∧ DataW.trod enc Tryz.prog w base spare held m7 27 [.slice a7 n7 c7] = some Y7 := by
  obtain ⟨xs, n, _, rfl, hlen, hxl, hf⟩ := DataW.trod_struct Tryz.underlying29 h
  have hC : Tryz.prog.cellsOf 29 = 8 := by kernel_rfl
  rw [hC] at hlen
  match xs, hxl, cs, hlen with
  | [y0, y1, y2, y3, y4], _, [c0, c1, c2, c3, c4, c5, c6, c7], _ =>
    have g0 : DataW.trod enc Tryz.prog w base spare held n 23 [c0, c1] = some y0 := by simpa [show Tryz.prog.cellsOf 23 = 2 from by kernel_rfl] using hf 0 _ rfl
    obtain ⟨s0, s1, e0, r0⟩ := open27 g0
    simp only [List.cons.injEq, and_true] at e0
    obtain ⟨rfl, rfl⟩ := e0
    have g1 : DataW.trod enc Tryz.prog w base spare held n 9 [c2] = some y1 := by simpa [show Tryz.prog.cellsOf 9 = 1 from by kernel_rfl] using hf 1 _ rfl
    obtain ⟨s2, e1, r1, _⟩ := DataW.trod_string Tryz.underlying9 g1
    simp only [List.cons.injEq, and_true] at e1
    subst e1
    subst r1
    have g2 : DataW.trod enc Tryz.prog w base spare held n 25 [c3, c4, c5] = some y2 := by simpa [show Tryz.prog.cellsOf 25 = 3 from by kernel_rfl] using hf 2 _ rfl
    obtain ⟨s3, s4, s5, e2, r2⟩ := open23 g2
    simp only [List.cons.injEq, and_true] at e2
    obtain ⟨rfl, rfl, rfl⟩ := e2
    have g3 : DataW.trod enc Tryz.prog w base spare held n 9 [c6] = some y3 := by simpa [show Tryz.prog.cellsOf 9 = 1 from by kernel_rfl] using hf 3 _ rfl
    obtain ⟨s6, e3, r3, _⟩ := DataW.trod_string Tryz.underlying9 g3
    simp only [List.cons.injEq, and_true] at e3
    subst e3
    subst r3
    have g4 : DataW.trod enc Tryz.prog w base spare held n 27 [c7] = some y4 := by simpa [show Tryz.prog.cellsOf 27 = 1 from by kernel_rfl] using hf 4 _ rfl
    obtain ⟨a7, n7, c7, e4⟩ := trod_slice_form Tryz.underlying27 g4
    simp only [List.cons.injEq, and_true] at e4
    subst e4
    exact ⟨s0, s1, s2, s3, s4, s5, s6, a7, n7, c7, n, y4, rfl, by simp [r0, r2], g4⟩

theorem cell_lt {W : World} {b o : Nat} {v : Value} (h : W.cell? ⟨b, o, none⟩ = some v) : b < W.heap.size := by
  unfold World.cell? at h
  rcases Nat.lt_or_ge b W.heap.size with k | k
  · exact k
  · rw [Array.getElem?_eq_none k] at h; simp at h
/-- from W on nothing that was there has turned -/
abbrev Later (W W' : World) : Prop := Below W.heap.size W W'
theorem Later.cell {W W' : World} (h : Later W W') {b o : Nat} {v : Value} (k : W.cell? ⟨b, o, none⟩ = some v) : W'.cell? ⟨b, o, none⟩ = some v := (Below.cell h (p := ⟨b, o, none⟩) (cell_lt k)).trans k
theorem Later.next {W A A' : World} (h : Later W A) (k : Later A A') : Later W A' := Below.trans h (Below.mono k h.size)
theorem Later.drew {W A : World} (h : Later W A) : Later W A.drew := Below.drew h
theorem Later.refl (W : World) : Later W W := Below.refl _ _
theorem Later.alloc {W A : World} (h : Later W A) (o : Obj) : Later W (A.alloc o) := Below.alloc h h.size o
theorem Later.grown {A B : World} (h : Later A B) : A.grownBy B none := ⟨h.os, h.tape, h.output, h.size, fun k hk _ => h.block k hk⟩
/-- the mark of a place -/
def mkN (k i : Int) : List Int := [35, k % 256, k / 256 % 256, k / 65536 % 256, 47, i % 256, i / 256 % 256, i / 65536 % 256]
def mk (i : Int) : ByteArray := strOfNums (mkN 1 i)
def TxtAt (W : World) (A : Option Addr) (L : List ByteArray) : Prop := ∀ i s, L[i]? = some s → ∃ b o, A = some ⟨b, o, none⟩ ∧ W.cell? ⟨b, o + i, none⟩ = some (.string s)
theorem TxtAt.later {W V : World} {A : Option Addr} {L : List ByteArray} (h : TxtAt W A L) (l : Later W V) : TxtAt V A L := fun i s hi => by
  obtain ⟨b, o, e, c⟩ := h i s hi
  exact ⟨b, o, e, l.cell c⟩
/-- a row of one's own, of texts: all that lies there, behind its end too -/
structure LentAt (W : World) (g c : Nat) (L : List ByteArray) : Prop where
  blk : ∃ cs, W.heap[g]? = some (.cells cs 9 (0, 0))
  len : L.length ≤ c
  cell : ∀ i s, L[i]? = some s → W.cell? ⟨g, i, none⟩ = some (.string s)
theorem LentAt.kept {W V : World} {g c : Nat} {L : List ByteArray} {row : Option Nat} (h : LentAt W g c L) (hg : W.grownBy V row) (hne : row ≠ some g) : LentAt V g c L := by
  obtain ⟨⟨cs, hb⟩, hl, hc⟩ := h
  have hlt := (Array.getElem?_eq_some_iff.1 hb).1
  have hk := hg.block g hlt (fun e => hne e.symm)
  exact ⟨⟨cs, hk.trans hb⟩, hl, fun i s hi => (World.cell?_of_block (w := W) (a := ⟨g, i, none⟩) hk).trans (hc i s hi)⟩
theorem LentAt.later {W V : World} {g c : Nat} {L : List ByteArray} (h : LentAt W g c L) (l : Later W V) : LentAt V g c L := h.kept l.grown (by simp)
def marks : List ByteArray := (List.range 24).map fun (j : Nat) => mk (j : Int)
theorem take_snoc {α : Type} {l : List α} {k : Nat} {x : α} (h : l[k]? = some x) : l.take (k + 1) = l.take k ++ [x] := by
  rw [List.take_add_one, h]; rfl
/-- a world of a class -/
structure InG (G : World → Prop) where
  W : World
  h : G W
/-- a region that draws its order, whose loads and calls keep a class of worlds -/
theorem region_in {P : Program} {id : Nat} {Q : Exit → Act → World → Prop} {a : Act} {w : World} {o : List Oper} (Good : World → Prop) (hm : P.follows .mixedOrders = true) (hB : Region.lexB .any o.toArray = true) (hG : Good w.drew)
    (h : wpQuiet P o.toArray (fun w' => ∃ p : InG Good, w' = p.W) (fun a' => ∀ w', Good w' → Q .normal a' w') o a) : (Code.region id o.toArray true).wp P Q a w :=
  wp_region_quiet (C := fun w' => ∃ p : InG Good, w' = p.W) hm hB ⟨⟨w.drew, hG⟩, rfl⟩ (by
    have : (fun a' => ∀ w', (∃ p : InG Good, w' = p.W) → Q .normal a' w') = (fun a' => ∀ w', Good w' → Q .normal a' w') := by
      funext a'
      exact propext ⟨fun k w' g => k w' ⟨⟨w', g⟩, rfl⟩, fun k w' ⟨p, e⟩ => e ▸ k p.W p.h⟩
    rw [this]
    exact h)
set_option maxRecDepth 1000000 in
theorem bits_run (r : Nat) (w : World) : (callFunc 107 #[.float .f32 r]).run Tryz.prog w = .ok (.value (.int .u32 r)) w := by kernel_rfl
/-- an argument, but for its texts -/
structure ArgV where
  name : ByteArray
  kind : Int
  b : Bool
  i : Int
  r : Nat
  text : ByteArray
abbrev ArgV.v (x : ArgV) (t : Value) : Value := .agg #[.string x.name, .int .i64 x.kind, .bool x.b, .int .i64 x.i, .float .f32 x.r, .string x.text, t]
theorem seven {W : World} {B t : Nat} {v0 v1 v2 v3 v4 v5 v6 : Value} (h' : W.heap[B]? = some (.cells #[v0, v1, v2, v3, v4, v5, v6] t (0, 0))) :
    (W.cell? ⟨B, 0, none⟩ = some v0 ∧ W.cell? ⟨B, 1, none⟩ = some v1 ∧ W.cell? ⟨B, 2, none⟩ = some v2 ∧ W.cell? ⟨B, 3, none⟩ = some v3 ∧ W.cell? ⟨B, 4, none⟩ = some v4 ∧ W.cell? ⟨B, 5, none⟩ = some v5 ∧ W.cell? ⟨B, 6, none⟩ = some v6) ∧
    (W.frozen? ⟨B, 0, none⟩ = false ∧ W.frozen? ⟨B, 1, none⟩ = false ∧ W.frozen? ⟨B, 2, none⟩ = false ∧ W.frozen? ⟨B, 3, none⟩ = false ∧ W.frozen? ⟨B, 4, none⟩ = false ∧ W.frozen? ⟨B, 5, none⟩ = false ∧ W.frozen? ⟨B, 6, none⟩ = false) := by
  simp [World.cell?, World.frozen?, h']
theorem run_store_float {P : Program} {w : World} {a : Addr} {m : Mode} (k : FloatKind) (r : Nat) : (store a (.float k r) m).run P w = stored P w a (.float k r) m := run_store P w a _ m rfl
/-- an argument, whole -/
structure Arg where
  x : ArgV
  l : List ByteArray
abbrev ArgV.row (x : ArgV) (t : Value) : List Value := [.string x.name, .int .i64 x.kind, .bool x.b, .int .i64 x.i, .float .f32 x.r, .string x.text, t]
/-- the seven cells of an argument, from a place on -/
def Seven (W : World) (b o : Nat) (x : ArgV) (t : Value) : Prop :=
  W.cell? ⟨b, o, none⟩ = some (.string x.name) ∧ W.cell? ⟨b, o + 1, none⟩ = some (.int .i64 x.kind) ∧ W.cell? ⟨b, o + 2, none⟩ = some (.bool x.b) ∧ W.cell? ⟨b, o + 3, none⟩ = some (.int .i64 x.i) ∧ W.cell? ⟨b, o + 4, none⟩ = some (.float .f32 x.r) ∧ W.cell? ⟨b, o + 5, none⟩ = some (.string x.text) ∧ W.cell? ⟨b, o + 6, none⟩ = some t
theorem Seven.later {W V : World} {b o : Nat} {x : ArgV} {t : Value} (h : Seven W b o x t) (l : Later W V) : Seven V b o x t := by
  obtain ⟨h0, h1, h2, h3, h4, h5, h6⟩ := h
  exact ⟨l.cell h0, l.cell h1, l.cell h2, l.cell h3, l.cell h4, l.cell h5, l.cell h6⟩
def ArgsAt (W : World) (A : Option Addr) (L : List Arg) : Prop := ∀ (i : Nat) (a : Arg), L[i]? = some a → ∃ b o TA tc, A = some ⟨b, o, none⟩ ∧ Seven W b (o + i * 7) a.x (.slice TA a.l.length tc) ∧ TxtAt W TA a.l ∧ a.l.length ≤ 8796093022080
theorem ArgsAt.later {W V : World} {A : Option Addr} {L : List Arg} (h : ArgsAt W A L) (k : Later W V) : ArgsAt V A L := fun i a hi => by
  obtain ⟨b, o, TA, tc, e, h7, ht, hz⟩ := h i a hi
  exact ⟨b, o, TA, tc, e, h7.later k, ht.later k, hz⟩
/-- what LentArgs has made: the arguments, each with a row of texts of its own, and the marks behind them -/
structure LA (W : World) (g cap : Nat) (L : List Arg) : Prop where
  len : L.length + 24 ≤ cap
  arg : ∀ (i : Nat) (a : Arg), L[i]? = some a → ∃ tg tc, Seven W g (i * 7) a.x (.slice (some ⟨tg, 0, none⟩) a.l.length tc) ∧ LentAt W tg tc (a.l ++ marks)
  mark : ∀ j, j < 24 → W.cell? ⟨g, (L.length + j) * 7, none⟩ = some (.string (mk (j : Int)))
theorem LA.later {W V : World} {g cap : Nat} {L : List Arg} (h : LA W g cap L) (k : Later W V) : LA V g cap L :=
  ⟨h.len, fun i a hi => by obtain ⟨tg, tc, h7, hl⟩ := h.arg i a hi; exact ⟨tg, tc, h7.later k, hl.later k⟩, fun j hj => k.cell (h.mark j hj)⟩
theorem own_ne9 {W : World} {base z n g c e : Nat} {v : Value} {xs : List Value} {L : List ByteArray} (h : W.ownsRow base e z v n xs) (he : e ≠ 9) (ha : LentAt W g c L) : v.ownBlock ≠ some g := fun ee => by
  rcases h.2 with ⟨rfl, _⟩ | ⟨g', cap, cur, rfl, _, hg, _⟩
  · cases ee
  · cases ee
    obtain ⟨⟨ds, h1⟩, _⟩ := ha
    rw [hg] at h1
    injection h1 with h1
    injection h1 with _ h1 _
    exact he h1
/-- the arguments that have been laid so far -/
def Laid (W : World) (R : List (List Value)) (L : List Arg) : Prop :=
  (∀ r ∈ R, r.length = 7) ∧ ∀ (i : Nat) (a : Arg), i < R.length → L[i]? = some a → ∃ tg tc, R[i]? = some (a.x.row (.slice (some ⟨tg, 0, none⟩) a.l.length tc)) ∧ LentAt W tg tc (a.l ++ marks)
theorem Laid.kept {W V : World} {R : List (List Value)} {L : List Arg} {base z n : Nat} {v : Value} {xs : List Value} (h : Laid W R L) (ho : W.ownsRow base 50 z v n xs) (hg : W.grownBy V v.ownBlock) : Laid V R L :=
  ⟨h.1, fun i a hi ha => by obtain ⟨tg, tc, h1, h2⟩ := h.2 i a hi ha; exact ⟨tg, tc, h1, h2.kept hg (own_ne9 ho (by decide) h2)⟩⟩
theorem Laid.later {W V : World} {R : List (List Value)} {L : List Arg} (h : Laid W R L) (l : Later W V) : Laid V R L :=
  ⟨h.1, fun i a hi ha => by obtain ⟨tg, tc, h1, h2⟩ := h.2 i a hi ha; exact ⟨tg, tc, h1, h2.later l⟩⟩
/-- a tuple, but for its arguments -/
structure TupV where
  t0 : ByteArray
  t1 : ByteArray
  t2 : ByteArray
  t3 : ByteArray
  t4 : ByteArray
  t5 : ByteArray
  t6 : ByteArray
abbrev TupV.v (x : TupV) (t : Value) : Value := .agg #[.string x.t0, .string x.t1, .string x.t2, .string x.t3, .string x.t4, .string x.t5, .string x.t6, t]
abbrev TupV.o (x : TupV) (t : Value) : Obj := .cells #[.string x.t0, .string x.t1, .string x.t2, .string x.t3, .string x.t4, .string x.t5, .string x.t6, t] 29
theorem eight {W : World} {B t : Nat} {v0 v1 v2 v3 v4 v5 v6 v7 : Value} (h' : W.heap[B]? = some (.cells #[v0, v1, v2, v3, v4, v5, v6, v7] t (0, 0))) :
    (W.cell? ⟨B, 0, none⟩ = some v0 ∧ W.cell? ⟨B, 1, none⟩ = some v1 ∧ W.cell? ⟨B, 2, none⟩ = some v2 ∧ W.cell? ⟨B, 3, none⟩ = some v3 ∧ W.cell? ⟨B, 4, none⟩ = some v4 ∧ W.cell? ⟨B, 5, none⟩ = some v5 ∧ W.cell? ⟨B, 6, none⟩ = some v6 ∧ W.cell? ⟨B, 7, none⟩ = some v7) ∧
    (W.frozen? ⟨B, 0, none⟩ = false ∧ W.frozen? ⟨B, 1, none⟩ = false ∧ W.frozen? ⟨B, 2, none⟩ = false ∧ W.frozen? ⟨B, 3, none⟩ = false ∧ W.frozen? ⟨B, 4, none⟩ = false ∧ W.frozen? ⟨B, 5, none⟩ = false ∧ W.frozen? ⟨B, 6, none⟩ = false ∧ W.frozen? ⟨B, 7, none⟩ = false) := by
  simp [World.cell?, World.frozen?, h']
set_option maxHeartbeats 8000000 in
set_option maxRecDepth 100000 in
theorem notNaN (s : ByteArray) (w : World) : Calls Tryz.prog 50 #[.string s] w fun e w' => e = .returned (.bool false) ∧ w = w' := by
  go_enter Tryz.func50, Tryz.ntmps50
  go_wp2_with fail
  go_ret
  exact ⟨by simp, rfl⟩
/-- two texts -/
def cmpS (a b : ByteArray) : Int := if Op.bytesLess a.toList b.toList = true then -1 else if (a.toList == b.toList) = true then 0 else 1
set_option maxHeartbeats 8000000 in
set_option maxRecDepth 100000 in
theorem cmp_any (a b : ByteArray) (w : World) : Calls Tryz.prog 24 #[.string a, .string b] w fun e w' => e = .returned (.int .i64 (cmpS a b)) ∧ w = w' := by
  unfold cmpS
  go_enter Tryz.func24, Tryz.ntmps24
  cases h1 : Op.bytesLess a.toList b.toList with
  | true =>
    go_wp2_with (go_at_call 50; refine (notNaN _ _).mono ?_; rintro e w3 ⟨rfl, rfl⟩)
    go_ret
    exact ⟨by simp, rfl⟩
  | false =>
    cases h2 : (a.toList == b.toList) with
    | true =>
      go_wp2_with (go_at_call 50; refine (notNaN _ _).mono ?_; rintro e w3 ⟨rfl, rfl⟩)
      go_ret
      exact ⟨by simp, rfl⟩
    | false =>
      go_wp2_with (go_at_call 50; refine (notNaN _ _).mono ?_; rintro e w3 ⟨rfl, rfl⟩)
      go_ret
      exact ⟨by simp, rfl⟩
/-- the first that is not nought -/
def orL : List Int → Int
  | [] => 0
  | x :: t => if x = 0 then orL t else x
set_option maxHeartbeats 8000000 in
set_option maxRecDepth 100000 in
theorem or_any {l : List Int} {w : World} {g n c : Nat} (hn : l.length = n) (hz : n ≤ 1000) (hc : ∀ i x, l[i]? = some x → w.cell? ⟨g, i, none⟩ = some (.int .i64 x)) :
    Calls Tryz.prog 22 #[.slice (some ⟨g, 0, none⟩) n c] w fun e w' => e = .returned (.int .i64 (orL l)) ∧ w = w' := by
  replace hc := hid hc
  go_enter Tryz.func22, Tryz.ntmps22
  go_wp2_with fail
  go_loopw [8] (fun i wr => ∃ k : Nat, k ≤ n ∧ i = .int .i64 k ∧ orL (l.drop k) = orL l ∧ w = wr) (fun i _ => n - (intOf i).toNat)
  case atStart => exact ⟨0, Nat.zero_le _, rfl, rfl, rfl⟩
  case round =>
    obtain ⟨k, hk, rfl, ho, rfl⟩ := hrel
    by_cases hlt : k < n
    · cases hx : l[k]? with
      | none => exact absurd (List.getElem?_eq_none_iff.1 hx) (by omega)
      | some x =>
        have c0 := hc.out k x hx
        have hd : l.drop k = x :: l.drop (k + 1) := by
          rw [List.drop_eq_getElem_cons (by omega)]
          congr 1
          have := (List.getElem?_eq_some_iff.1 hx).2
          exact this
        rw [hd] at ho
        clear hx hd
        by_cases h0 : x = 0
        · subst h0
          replace ho := hid ho
          go_wp2_with fail
          go_roundw
          case rel => exact ⟨k + 1, by omega, by go_num, by have := ho.out; simpa [orL] using this, trivial⟩
          case measure => simp [intOf]; omega
        · have hb : (x != 0) = true := by simp [h0]
          have he : Hid (orL l = x) := hid (by rw [← ho]; simp [orL, h0])
          clear ho
          go_wp2_with fail
          go_ret
          exact ⟨by rw [he.out]; rfl, rfl⟩
    · obtain rfl : k = n := by omega
      have he : Hid (orL l = 0) := hid (by rw [← ho, List.drop_of_length_le (by omega)]; rfl)
      clear ho
      go_wp2_with fail
      go_ret
      exact ⟨by rw [he.out]; rfl, rfl⟩
theorem cells_at (W : World) (vs : List Value) (t : TypeId) (j : Nat) (u : Value) (hj : vs[j]? = some u) : (W.alloc (.cells vs.toArray t)).cell? ⟨W.heap.size, j, none⟩ = some u := by
  have h' := World.alloc_heap_new W (.cells vs.toArray t)
  simp only [World.cell?, h']
  simpa using hj
theorem or_new (V : World) (l : List Int) (hz : l.length ≤ 1000) : Calls Tryz.prog 22 #[.slice (some ⟨V.heap.size, 0, none⟩) l.length l.length] (V.alloc (.cells (l.map (Value.int .i64)).toArray 3)) fun e w' => e = .returned (.int .i64 (orL l)) ∧ (V.alloc (.cells (l.map (Value.int .i64)).toArray 3)) = w' :=
  or_any rfl hz fun i x hx => cells_at V (l.map (Value.int .i64)) 3 i _ (by simp [hx])
theorem or_new_d (V : World) (l : List Int) (hz : l.length ≤ 1000) : Calls Tryz.prog 22 #[.slice (some ⟨V.heap.size, 0, none⟩) l.length l.length] (V.alloc (.cells (l.map (Value.int .i64)).toArray 3)).drew fun e w' => e = .returned (.int .i64 (orL l)) ∧ (V.alloc (.cells (l.map (Value.int .i64)).toArray 3)).drew = w' :=
  or_any rfl hz fun i x hx => cells_at V (l.map (Value.int .i64)) 3 i _ (by simp [hx])
set_option maxHeartbeats 8000000 in
set_option maxRecDepth 100000 in
theorem obj_any (a0 a1 b0 b1 : ByteArray) (w : World) : Calls Tryz.prog 23 #[.agg #[.string a0, .string a1], .agg #[.string b0, .string b1]] w fun e w' => e = .returned (.int .i64 (orL [cmpS a0 b0, cmpS a1 b1])) ∧ Later w w' := by
  have a := cells_at w [.string a0, .string a1] 23
  have b := cells_at (w.alloc (.cells #[.string a0, .string a1] 23)) [.string b0, .string b1] 23
  have hw1 : Later (w.alloc (.cells #[.string a0, .string a1] 23)) ((w.alloc (.cells #[.string a0, .string a1] 23)).alloc (.cells #[.string b0, .string b1] 23)) := (Later.refl _).alloc _
  have hw2 := ((Later.refl w).alloc (.cells #[.string a0, .string a1] 23)).next hw1
  rw [World.size_alloc] at b
  have hc : ∀ V, Later ((w.alloc (.cells #[.string a0, .string a1] 23)).alloc (.cells #[.string b0, .string b1] 23)) V → V.cell? ⟨w.heap.size, 0, none⟩ = some (.string a0) ∧ V.cell? ⟨w.heap.size, 1, none⟩ = some (.string a1) ∧ V.cell? ⟨w.heap.size + 1, 0, none⟩ = some (.string b0) ∧ V.cell? ⟨w.heap.size + 1, 1, none⟩ = some (.string b1) := fun V l =>
    ⟨l.cell (hw1.cell (a 0 _ rfl)), l.cell (hw1.cell (a 1 _ rfl)), l.cell (b 0 _ rfl), l.cell (b 1 _ rfl)⟩
  have c0 := fun W => cmp_any a0 b0 W
  have c1 := fun W => cmp_any a1 b1 W
  generalize cmpS a0 b0 = x0 at c0 ⊢
  generalize cmpS a1 b1 = x1 at c1 ⊢
  have o0 := fun V => or_new V [x0, x1] (by simp)
  have o1 := fun V => or_new_d V [x0, x1] (by simp)
  simp only [List.map_cons, List.map_nil, List.length_cons, List.length_nil, Nat.zero_add, Nat.reduceAdd] at o0 o1
  generalize orL [x0, x1] = R at o0 o1 ⊢
  clear a b hw1
  go_enter Tryz.func23, Tryz.ntmps23
  go_upto_region 1 with fail
  generalize (w.alloc (.cells #[.string a0, .string a1] 23)).alloc (.cells #[.string b0, .string b1] 23) = W2 at hc hw2 ⊢
  have l0 := Later.refl W2
  have l1 := Later.drew l0
  go_region_held3 (fun W' => Later W2 W') (first | assumption | exact Later.drew (by assumption) | exact Later.alloc (by assumption) _ | exact (Later.alloc (by assumption) _).drew) (first
    | (go_at_call 24; (with_reducible refine (c0 _).mono ?_); rintro e w3 ⟨rfl, rfl⟩)
    | (go_at_call 24; (with_reducible refine (c1 _).mono ?_); rintro e w3 ⟨rfl, rfl⟩)
    | (go_at_call 22; (with_reducible refine (o0 _).mono ?_); rintro e w3 ⟨rfl, rfl⟩)
    | (go_at_call 22; (with_reducible refine (o1 _).mono ?_); rintro e w3 ⟨rfl, rfl⟩))
  all_goals
    go_wp2_with fail
    go_ret
    exact ⟨rfl, hw2.next (by first | exact l0.alloc _ | exact (l0.alloc _).drew | exact l1.alloc _)⟩
set_option maxHeartbeats 8000000 in
set_option maxRecDepth 100000 in
theorem subj_any (a0 a1 a2 b0 b1 b2 : ByteArray) (w : World) : Calls Tryz.prog 25 #[.agg #[.string a0, .string a1, .string a2], .agg #[.string b0, .string b1, .string b2]] w fun e w' => e = .returned (.int .i64 (orL [cmpS a0 b0, cmpS a1 b1, cmpS a2 b2])) ∧ Later w w' := by
  have a := cells_at w [.string a0, .string a1, .string a2] 25
  have b := cells_at (w.alloc (.cells #[.string a0, .string a1, .string a2] 25)) [.string b0, .string b1, .string b2] 25
  have hw1 : Later (w.alloc (.cells #[.string a0, .string a1, .string a2] 25)) ((w.alloc (.cells #[.string a0, .string a1, .string a2] 25)).alloc (.cells #[.string b0, .string b1, .string b2] 25)) := (Later.refl _).alloc _
  have hw2 := ((Later.refl w).alloc (.cells #[.string a0, .string a1, .string a2] 25)).next hw1
  rw [World.size_alloc] at b
  have hc : ∀ V, Later ((w.alloc (.cells #[.string a0, .string a1, .string a2] 25)).alloc (.cells #[.string b0, .string b1, .string b2] 25)) V → V.cell? ⟨w.heap.size, 0, none⟩ = some (.string a0) ∧ V.cell? ⟨w.heap.size, 1, none⟩ = some (.string a1) ∧ V.cell? ⟨w.heap.size, 2, none⟩ = some (.string a2) ∧ V.cell? ⟨w.heap.size + 1, 0, none⟩ = some (.string b0) ∧ V.cell? ⟨w.heap.size + 1, 1, none⟩ = some (.string b1) ∧ V.cell? ⟨w.heap.size + 1, 2, none⟩ = some (.string b2) := fun V l =>
    ⟨l.cell (hw1.cell (a 0 _ rfl)), l.cell (hw1.cell (a 1 _ rfl)), l.cell (hw1.cell (a 2 _ rfl)), l.cell (b 0 _ rfl), l.cell (b 1 _ rfl), l.cell (b 2 _ rfl)⟩
  have c0 := fun W => cmp_any a0 b0 W
  have c1 := fun W => cmp_any a1 b1 W
  have c2 := fun W => cmp_any a2 b2 W
  generalize cmpS a0 b0 = x0 at c0 ⊢
  generalize cmpS a1 b1 = x1 at c1 ⊢
  generalize cmpS a2 b2 = x2 at c2 ⊢
  have o0 := fun V => or_new V [x0, x1, x2] (by simp)
  have o1 := fun V => or_new_d V [x0, x1, x2] (by simp)
  simp only [List.map_cons, List.map_nil, List.length_cons, List.length_nil, Nat.zero_add, Nat.reduceAdd] at o0 o1
  generalize orL [x0, x1, x2] = R at o0 o1 ⊢
  clear a b hw1
  go_enter Tryz.func25, Tryz.ntmps25
  go_upto_region 1 with fail
  generalize (w.alloc (.cells #[.string a0, .string a1, .string a2] 25)).alloc (.cells #[.string b0, .string b1, .string b2] 25) = W2 at hc hw2 ⊢
  have l0 := Later.refl W2
  have l1 := Later.drew l0
  go_region_held3 (fun W' => Later W2 W') (first | assumption | exact Later.drew (by assumption) | exact Later.alloc (by assumption) _ | exact (Later.alloc (by assumption) _).drew) (first
    | (go_at_call 24; (with_reducible refine (c0 _).mono ?_); rintro e w3 ⟨rfl, rfl⟩)
    | (go_at_call 24; (with_reducible refine (c1 _).mono ?_); rintro e w3 ⟨rfl, rfl⟩)
    | (go_at_call 24; (with_reducible refine (c2 _).mono ?_); rintro e w3 ⟨rfl, rfl⟩)
    | (go_at_call 22; (with_reducible refine (o0 _).mono ?_); rintro e w3 ⟨rfl, rfl⟩)
    | (go_at_call 22; (with_reducible refine (o1 _).mono ?_); rintro e w3 ⟨rfl, rfl⟩))
  all_goals
    go_wp2_with fail
    go_ret
    exact ⟨rfl, hw2.next (by first | exact l0.alloc _ | exact (l0.alloc _).drew | exact l1.alloc _)⟩
/-- the cells of two tuples' boxes -/
theorem two_tuples (x y : TupV) (s t : Value) (w : World) : Later w ((w.alloc (x.o s)).alloc (y.o t)) ∧ ∀ V, Later ((w.alloc (x.o s)).alloc (y.o t)) V →
    (V.cell? ⟨w.heap.size, 0, none⟩ = some (.string x.t0) ∧ V.cell? ⟨w.heap.size, 1, none⟩ = some (.string x.t1) ∧ V.cell? ⟨w.heap.size, 2, none⟩ = some (.string x.t2) ∧ V.cell? ⟨w.heap.size, 3, none⟩ = some (.string x.t3) ∧ V.cell? ⟨w.heap.size, 4, none⟩ = some (.string x.t4) ∧ V.cell? ⟨w.heap.size, 5, none⟩ = some (.string x.t5) ∧ V.cell? ⟨w.heap.size, 6, none⟩ = some (.string x.t6) ∧ V.cell? ⟨w.heap.size, 7, none⟩ = some s) ∧
    (V.cell? ⟨w.heap.size + 1, 0, none⟩ = some (.string y.t0) ∧ V.cell? ⟨w.heap.size + 1, 1, none⟩ = some (.string y.t1) ∧ V.cell? ⟨w.heap.size + 1, 2, none⟩ = some (.string y.t2) ∧ V.cell? ⟨w.heap.size + 1, 3, none⟩ = some (.string y.t3) ∧ V.cell? ⟨w.heap.size + 1, 4, none⟩ = some (.string y.t4) ∧ V.cell? ⟨w.heap.size + 1, 5, none⟩ = some (.string y.t5) ∧ V.cell? ⟨w.heap.size + 1, 6, none⟩ = some (.string y.t6) ∧ V.cell? ⟨w.heap.size + 1, 7, none⟩ = some t) := by
  have a1 := World.alloc_heap_new w (x.o s)
  have a2 := World.alloc_heap_new (w.alloc (x.o s)) (y.o t)
  have hw1 : Later (w.alloc (x.o s)) ((w.alloc (x.o s)).alloc (y.o t)) := (Later.refl _).alloc _
  have h1 := (hw1.block w.heap.size (Array.getElem?_eq_some_iff.1 a1).1).trans a1
  rw [World.size_alloc] at a2
  refine ⟨((Later.refl w).alloc _).next hw1, fun V l => ⟨?_, ?_⟩⟩
  · exact (eight ((l.block w.heap.size (Array.getElem?_eq_some_iff.1 h1).1).trans h1)).1
  · exact (eight ((l.block (w.heap.size + 1) (Array.getElem?_eq_some_iff.1 a2).1).trans a2)).1
def keyC (x y : TupV) : Int := orL [orL [cmpS x.t0 y.t0, cmpS x.t1 y.t1], cmpS x.t2 y.t2, orL [cmpS x.t3 y.t3, cmpS x.t4 y.t4, cmpS x.t5 y.t5]]
def keyB (x y : TupV) : Int := orL [orL [cmpS x.t3 y.t3, cmpS x.t4 y.t4, cmpS x.t5 y.t5], orL [cmpS x.t0 y.t0, cmpS x.t1 y.t1], cmpS x.t2 y.t2]
set_option maxHeartbeats 8000000 in
set_option maxRecDepth 100000 in
theorem compare_any (x y : TupV) (s t : Value) (w : World) : Calls Tryz.prog 9 #[x.v s, y.v t] w fun e w' => e = .returned (.int .i64 (keyC x y)) ∧ Later w w' := by
  obtain ⟨hw2, hc⟩ := two_tuples x y s t w
  unfold keyC
  have c0 := fun W => obj_any x.t0 x.t1 y.t0 y.t1 W
  have c1 := fun W => cmp_any x.t2 y.t2 W
  have c2 := fun W => subj_any x.t3 x.t4 x.t5 y.t3 y.t4 y.t5 W
  generalize orL [cmpS x.t0 y.t0, cmpS x.t1 y.t1] = x0 at c0 ⊢
  generalize orL [cmpS x.t3 y.t3, cmpS x.t4 y.t4, cmpS x.t5 y.t5] = x2 at c2 ⊢
  generalize cmpS x.t2 y.t2 = x1 at c1 ⊢
  have o0 := fun V => or_new V [x0, x1, x2] (by simp)
  have o1 := fun V => or_new_d V [x0, x1, x2] (by simp)
  simp only [List.map_cons, List.map_nil, List.length_cons, List.length_nil, Nat.zero_add, Nat.reduceAdd] at o0 o1
  generalize orL [x0, x1, x2] = R at o0 o1 ⊢
  go_enter Tryz.func9, Tryz.ntmps9
  go_upto_region 1 with fail
  generalize (w.alloc (x.o s)).alloc (y.o t) = W2 at hc hw2 ⊢
  have l0 := Later.refl W2
  have l1 := Later.drew l0
  go_region_held3 (fun W' => Later W2 W') (first | assumption | exact Later.drew (by assumption) | exact Later.alloc (by assumption) _ | exact (Later.alloc (by assumption) _).drew) (first
    | (go_at_call 23; (with_reducible refine (c0 _).mono ?_); rintro e w3 ⟨rfl, l3⟩; have lw3 : Later W2 w3 := Later.next (by assumption) l3)
    | (go_at_call 24; (with_reducible refine (c1 _).mono ?_); rintro e w4 ⟨rfl, rfl⟩)
    | (go_at_call 25; (with_reducible refine (c2 _).mono ?_); rintro e w5 ⟨rfl, l5⟩; have lw5 : Later W2 w5 := Later.next (by assumption) l5)
    | (go_at_call 22; (with_reducible refine (o0 _).mono ?_); rintro e w6 ⟨rfl, rfl⟩)
    | (go_at_call 22; (with_reducible refine (o1 _).mono ?_); rintro e w6 ⟨rfl, rfl⟩))
  all_goals
    go_wp2_with fail
    go_ret
    exact ⟨rfl, hw2.next (by first | exact lw5.alloc _ | exact (lw5.alloc _).drew | exact lw3.alloc _ | exact (lw3.alloc _).drew)⟩
set_option maxHeartbeats 8000000 in
set_option maxRecDepth 100000 in
theorem backward_any (x y : TupV) (s t : Value) (w : World) : Calls Tryz.prog 10 #[x.v s, y.v t] w fun e w' => e = .returned (.int .i64 (keyB x y)) ∧ Later w w' := by
  obtain ⟨hw2, hc⟩ := two_tuples x y s t w
  unfold keyB
  have c0 := fun W => obj_any x.t0 x.t1 y.t0 y.t1 W
  have c1 := fun W => cmp_any x.t2 y.t2 W
  have c2 := fun W => subj_any x.t3 x.t4 x.t5 y.t3 y.t4 y.t5 W
  generalize orL [cmpS x.t0 y.t0, cmpS x.t1 y.t1] = x0 at c0 ⊢
  generalize orL [cmpS x.t3 y.t3, cmpS x.t4 y.t4, cmpS x.t5 y.t5] = x2 at c2 ⊢
  generalize cmpS x.t2 y.t2 = x1 at c1 ⊢
  have o0 := fun V => or_new V [x2, x0, x1] (by simp)
  have o1 := fun V => or_new_d V [x2, x0, x1] (by simp)
  simp only [List.map_cons, List.map_nil, List.length_cons, List.length_nil, Nat.zero_add, Nat.reduceAdd] at o0 o1
  generalize orL [x2, x0, x1] = R at o0 o1 ⊢
  go_enter Tryz.func10, Tryz.ntmps10
  go_upto_region 1 with fail
  generalize (w.alloc (x.o s)).alloc (y.o t) = W2 at hc hw2 ⊢
  have l0 := Later.refl W2
  have l1 := Later.drew l0
  go_region_held3 (fun W' => Later W2 W') (first | assumption | exact Later.drew (by assumption) | exact Later.alloc (by assumption) _ | exact (Later.alloc (by assumption) _).drew) (first
    | (go_at_call 23; (with_reducible refine (c0 _).mono ?_); rintro e w3 ⟨rfl, l3⟩; have lw3 : Later W2 w3 := Later.next (by assumption) l3)
    | (go_at_call 24; (with_reducible refine (c1 _).mono ?_); rintro e w4 ⟨rfl, rfl⟩)
    | (go_at_call 25; (with_reducible refine (c2 _).mono ?_); rintro e w5 ⟨rfl, l5⟩; have lw5 : Later W2 w5 := Later.next (by assumption) l5)
    | (go_at_call 22; (with_reducible refine (o0 _).mono ?_); rintro e w6 ⟨rfl, rfl⟩)
    | (go_at_call 22; (with_reducible refine (o1 _).mono ?_); rintro e w6 ⟨rfl, rfl⟩))
  all_goals
    go_wp2_with fail
    go_ret
    exact ⟨rfl, hw2.next (by first | exact lw5.alloc _ | exact (lw5.alloc _).drew | exact lw3.alloc _ | exact (lw3.alloc _).drew)⟩
/-- two lists of bytes -/
def cmpL (s t : List UInt8) : Int := if Op.bytesLess s t = true then -1 else if (s == t) = true then 0 else 1
theorem cmpL_cons (x y : UInt8) (s t : List UInt8) : cmpL (x :: s) (y :: t) = if x.toNat < y.toNat then -1 else if y.toNat < x.toNat then 1 else cmpL s t := by
  rcases Nat.lt_trichotomy x.toNat y.toNat with h | h | h
  · have h1 : x < y := UInt8.lt_iff_toNat_lt.2 h
    have e : (if x.toNat < y.toNat then (-1 : Int) else if y.toNat < x.toNat then 1 else cmpL s t) = -1 := if_pos h
    rw [e]
    unfold cmpL
    exact if_pos (by simp [Op.bytesLess, h1])
  · obtain rfl : x = y := UInt8.toNat_inj.1 h
    have e1 : ¬ x.toNat < x.toNat := Nat.lt_irrefl _
    have e : (if x.toNat < x.toNat then (-1 : Int) else if x.toNat < x.toNat then 1 else cmpL s t) = cmpL s t := by rw [if_neg e1, if_neg e1]
    rw [e]
    have h1 : ¬ x < x := fun e => e1 (UInt8.lt_iff_toNat_lt.1 e)
    unfold cmpL
    simp [Op.bytesLess, h1]
  · have h0 : ¬ x.toNat < y.toNat := by omega
    have h1 : ¬ x < y := fun e => h0 (UInt8.lt_iff_toNat_lt.1 e)
    have h2 : x ≠ y := fun e => by subst e; omega
    have e : (if x.toNat < y.toNat then (-1 : Int) else if y.toNat < x.toNat then 1 else cmpL s t) = 1 := by rw [if_neg h0, if_pos h]
    rw [e]
    unfold cmpL
    have e3 : Op.bytesLess (x :: s) (y :: t) = false := by
      show (decide (x < y) || (x == y && Op.bytesLess s t)) = false
      rw [decide_eq_false h1, beq_false_of_ne h2]
      rfl
    rw [e3]
    simp [h2]
theorem cmpL_nil (t : List UInt8) : cmpL [] t = if t = [] then 0 else -1 := by
  cases t with
  | nil => rfl
  | cons y t => rfl
theorem cmpL_right (x : UInt8) (s : List UInt8) : cmpL (x :: s) [] = 1 := by
  cases s <;> rfl
/-- the cells of two boxes of texts -/
theorem two_boxes (vs us : List Value) (t : TypeId) (w : World) : Later w ((w.alloc (.cells vs.toArray t)).alloc (.cells us.toArray t)) ∧ ∀ V, Later ((w.alloc (.cells vs.toArray t)).alloc (.cells us.toArray t)) V →
    (∀ j u, vs[j]? = some u → V.cell? ⟨w.heap.size, j, none⟩ = some u) ∧ (∀ j u, us[j]? = some u → V.cell? ⟨w.heap.size + 1, j, none⟩ = some u) := by
  have a := cells_at w vs t
  have b := cells_at (w.alloc (.cells vs.toArray t)) us t
  have hw1 : Later (w.alloc (.cells vs.toArray t)) ((w.alloc (.cells vs.toArray t)).alloc (.cells us.toArray t)) := (Later.refl _).alloc _
  rw [World.size_alloc] at b
  exact ⟨((Later.refl w).alloc _).next hw1, fun V l => ⟨fun j u h => l.cell (hw1.cell (a j u h)), fun j u h => l.cell (b j u h)⟩⟩
theorem bytes_ext {s t : ByteArray} (h : s.toList = t.toList) : s = t := by
  rw [Lib.toList_data, Lib.toList_data] at h
  cases s; cases t
  congr 1
  exact Array.toList_inj.1 h
set_option maxHeartbeats 8000000 in
set_option maxRecDepth 100000 in
theorem eq_texts {l m : List ByteArray} {w : World} {A B : Option Addr} {n1 n2 c c' : Nat} (hA : TxtAt w A l) (hB : TxtAt w B m) (hn1 : l.length = n1) (hn2 : m.length = n2) (hz : n1 ≤ 8796093022080) :
    Calls Tryz.prog 53 #[.slice A n1 c, .slice B n2 c'] w fun e w' => e = .returned (.bool (decide (l = m))) ∧ Later w w' := by
  obtain ⟨R, hR⟩ : ∃ R : Bool, decide (l = m) = R := ⟨_, rfl⟩
  rw [hR]
  replace hR := hid hR
  by_cases hnn : n1 = n2
  · subst hnn
    go_enter Tryz.func53, Tryz.ntmps53
    go_wp2_with fail
    go_loopw [13] (fun i wr => ∃ k : Nat, k ≤ n1 ∧ i = .int .i64 k ∧ l.take k = m.take k ∧ Later w wr) (fun i _ => n1 - (intOf i).toNat)
    case atStart => exact ⟨0, Nat.zero_le _, rfl, rfl, Later.refl _⟩
    case round =>
      obtain ⟨k, hk, rfl, hp, lk⟩ := hrel
      by_cases hlt : k < n1
      · cases hs : l[k]? with
        | none => exact absurd (List.getElem?_eq_none_iff.1 hs) (by omega)
        | some s =>
          cases ht : m[k]? with
          | none => exact absurd (List.getElem?_eq_none_iff.1 ht) (by omega)
          | some t =>
            obtain ⟨b, o, rfl, _⟩ := hA k s hs
            obtain ⟨b', o', rfl, _⟩ := hB k t ht
            have hG0 := Later.drew (Later.refl wr)
            obtain ⟨Good, hGd⟩ : ∃ G : World → Prop, ∀ W', G W' ↔ Later wr W' := ⟨_, fun _ => Iff.rfl⟩
            replace hG0 := (hGd _).2 hG0
            have hne : Nonempty (InG Good) := ⟨⟨_, hG0⟩⟩
            have f0 : ∀ q : InG Good, q.W.cell? ⟨b, o + k, none⟩ = some (.string s) ∧ q.W.cell? ⟨b', o' + k, none⟩ = some (.string t) := fun q => by
              have lq := lk.next ((hGd _).1 q.h)
              obtain ⟨b1, o1, e1, c1⟩ := hA.later lq k s hs
              obtain ⟨b2, o2, e2, c2⟩ := hB.later lq k t ht
              cases e1; cases e2
              exact ⟨c1, c2⟩
            replace hGd := hid hGd
            have hsn : Hid (s = t → l.take (k + 1) = m.take (k + 1)) := hid (fun e => by rw [take_snoc hs, take_snoc ht, hp, e])
            have hsx : Hid (s ≠ t → R = false) := hid (fun e => by
              rw [← hR.out]
              refine decide_eq_false (fun h => e ?_)
              rw [h, ht] at hs
              injection hs with hs
              exact hs.symm)
            clear hs ht hp
            by_cases hst : s = t
            · have hb : (s.toList == t.toList) = true := by simp [hst]
              have hp2 := hsn.out hst
              clear hsn hsx
              replace hst := hid hst
              replace hp2 := hid hp2
              go_wp2_with fail
              refine region_in Good (by kernel_rfl) (by kernel_rfl) hG0 ?_
              repeat (go_big_quiet_step (fail))
              refine wpQuiet_nil ?_
              intro V8 hw8
              have l68 := (hGd.out _).1 hw8
              clear hG0 hGd hne f0 hw8 Good
              go_wp2_with fail
              go_roundw
              case rel => exact ⟨k + 1, by omega, by go_num, hp2.out, lk.next l68⟩
              case measure => simp [intOf]; omega
            · have hb : (s.toList == t.toList) = false := by
                rw [beq_eq_false_iff_ne]
                exact fun e => hst (bytes_ext e)
              have hr := hid (hsx.out hst)
              clear hsn hsx
              replace hst := hid hst
              go_wp2_with fail
              refine region_in Good (by kernel_rfl) (by kernel_rfl) hG0 ?_
              repeat (go_big_quiet_step (fail))
              refine wpQuiet_nil ?_
              intro V8 hw8
              have l68 := (hGd.out _).1 hw8
              clear hG0 hGd hne f0 hw8 Good
              go_wp2_with fail
              go_ret
              exact ⟨by rw [hr.out]; rfl, lk.next l68⟩
      · obtain rfl : k = n1 := by omega
        have hr : Hid (R = true) := hid (by
          rw [← hR.out]
          rw [List.take_of_length_le (by omega), List.take_of_length_le (by omega)] at hp
          exact decide_eq_true hp)
        clear hp
        go_wp2_with fail
        go_ret
        exact ⟨by rw [hr.out]; rfl, lk⟩
  · have hr : Hid (R = false) := hid (by rw [← hR.out]; exact decide_eq_false (fun h => hnn (by rw [← hn1, ← hn2, h])))
    have hd : decide ((n1 : Int) = (n2 : Int)) = false := by simp; omega
    go_enter Tryz.func53, Tryz.ntmps53
    go_wp2_with fail
    go_ret
    exact ⟨by rw [hr.out]; rfl, Later.refl _⟩
def smallV (text : ByteArray) (l : List ByteArray) : Bool := decide (text.size ≤ 256) && decide (l.length ≤ 32) && l.all fun s => decide (s.size ≤ 256)
def nB (i : Int) : Bool := i != 0
def rB (r : Nat) : Bool := FloatKind.f32.format.order r 0 != some Ordering.eq
def tB (t : ByteArray) : Bool := !t.toList.isEmpty
def lB (l : List ByteArray) : Bool := decide (0 < l.length)
def kindV (kind : Int) (b i r t l : Bool) : Bool :=
  if kind = 1 then !(i || r || t || l) else if kind = 2 then !(b || r || t || l) else if kind = 3 then !(b || i || t || l) else if kind = 4 then !(b || i || r || l) else if kind = 5 then !(b || i || r || t) else false
def okV (kind : Int) (b : Bool) (i : Int) (r : Nat) (text : ByteArray) (l : List ByteArray) : Bool := smallV text l && kindV kind b (nB i) (rB r) (tB text) (lB l)
def errV (o : Bool) : Int := if o = true then 0 else 40
set_option maxHeartbeats 8000000 in
set_option maxRecDepth 100000 in
theorem check_any (kind : Int) (b : Bool) (i : Int) (r : Nat) (text : ByteArray) {l : List ByteArray} {w : World} {A : Option Addr} {n c : Nat} (hA : TxtAt w A l) (hn : l.length = n) (hz : n ≤ 8796093022080) :
    Calls Tryz.prog 39 #[.agg #[.int .i64 kind, .bool b, .int .i64 i, .float .f32 r, .string text, .slice A n c]] w fun e w' => e = .returned (.int .i64 (errV (okV kind b i r text l))) ∧ Later w w' := by
  obtain ⟨R, hR⟩ : ∃ R, errV (okV kind b i r text l) = R := ⟨_, rfl⟩
  rw [hR]
  have hw1 : Later w (w.alloc (.cells #[.int .i64 kind, .bool b, .int .i64 i, .float .f32 r, .string text, .slice A n c] 55)) := (Later.refl w).alloc _
  have hcl := cells_at w [.int .i64 kind, .bool b, .int .i64 i, .float .f32 r, .string text, .slice A n c] 55
  have hc : ∀ V, Later (w.alloc (.cells #[.int .i64 kind, .bool b, .int .i64 i, .float .f32 r, .string text, .slice A n c] 55)) V → V.cell? ⟨w.heap.size, 0, none⟩ = some (.int .i64 kind) ∧ V.cell? ⟨w.heap.size, 1, none⟩ = some (.bool b) ∧ V.cell? ⟨w.heap.size, 2, none⟩ = some (.int .i64 i) ∧ V.cell? ⟨w.heap.size, 3, none⟩ = some (.float .f32 r) ∧ V.cell? ⟨w.heap.size, 4, none⟩ = some (.string text) ∧ V.cell? ⟨w.heap.size, 5, none⟩ = some (.slice A n c) := fun V l =>
    ⟨l.cell (hcl 0 _ rfl), l.cell (hcl 1 _ rfl), l.cell (hcl 2 _ rfl), l.cell (hcl 3 _ rfl), l.cell (hcl 4 _ rfl), l.cell (hcl 5 _ rfl)⟩
  clear hcl
  go_enter Tryz.func39, Tryz.ntmps39
  go_upto_region 1 with fail
  generalize w.alloc (.cells #[.int .i64 kind, .bool b, .int .i64 i, .float .f32 r, .string text, .slice A n c] 55) = W1 at hc hw1 ⊢
  obtain ⟨p0, p1, p2, p3, p4, p5⟩ := hc W1 (Later.refl _)
  by_cases h1 : text.size ≤ 256
  · by_cases h2 : n ≤ 32
    · have d1 : decide (256 < text.size) = false := by simp; omega
      have d2 : decide (32 < n) = false := by simp; omega
      go_wp2_with fail
      go_loopw [23] (fun i' wr => ∃ k : Nat, k ≤ n ∧ i' = .int .i64 k ∧ Hid (∀ j s, j < k → l[j]? = some s → s.size ≤ 256) ∧ Later W1 wr) (fun i' _ => n - (intOf i').toNat)
      case atStart => exact ⟨0, Nat.zero_le _, rfl, hid (fun j s hj => by omega), Later.refl _⟩
      case round =>
        obtain ⟨k, hk, rfl, hsm, lk⟩ := hrel
        by_cases hlt : k < n
        · cases hs : l[k]? with
          | none => exact absurd (List.getElem?_eq_none_iff.1 hs) (by omega)
          | some s =>
            obtain ⟨bb, oo, rfl, c0⟩ := hA.later (hw1.next lk) k s hs
            have hs' : Hid (l[k]? = some s) := hid hs
            clear hs
            by_cases h3 : s.size ≤ 256
            · have d3 : decide (256 < s.size) = false := by simp; omega
              have hn2 : Hid (∀ j s, j < k + 1 → l[j]? = some s → s.size ≤ 256) := hid (fun j s' hj hj2 => by
                by_cases hjk : j < k
                · exact hsm.out j s' hjk hj2
                · obtain rfl : j = k := by omega
                  rw [hs'.out] at hj2
                  injection hj2 with hj2
                  rw [← hj2]
                  exact h3)
              go_wp2_with fail
              go_roundw
              case rel => exact ⟨k + 1, by omega, by go_num, hn2, lk⟩
              case measure => simp [intOf]; omega
            · have hr : Hid (R = 40) := hid (by
                rw [← hR]
                have : smallV text l = false := by
                  unfold smallV
                  rw [Bool.and_eq_false_iff]
                  right
                  rw [List.all_eq_false]
                  exact ⟨s, List.mem_of_getElem? hs'.out, by simp; omega⟩
                simp [errV, okV, this])
              have d3 : decide (256 < s.size) = true := by simp; omega
              clear hR
              go_wp2_with fail
              go_ret
              exact ⟨by rw [hr.out]; rfl, hw1.next lk⟩
        · obtain rfl : k = n := by omega
          have hr : Hid (R = errV (kindV kind b (nB i) (rB r) (tB text) (lB l))) := hid (by
            rw [← hR]
            have : smallV text l = true := by
              unfold smallV
              rw [Bool.and_eq_true, Bool.and_eq_true]
              refine ⟨⟨decide_eq_true h1, decide_eq_true (by omega)⟩, List.all_eq_true.2 fun s hs => ?_⟩
              obtain ⟨j, hj⟩ := List.mem_iff_getElem?.1 hs
              exact decide_eq_true (hsm.out j s (by have := (List.getElem?_eq_some_iff.1 hj).1; omega) hj)
            simp [okV, this])
          clear hR hsm
          obtain ⟨q0, q1, q2, q3, q4, q5⟩ := hc _ lk
          go_upto_region 9 with fail
          go_quiet (fail)
          have lq : Later W1 (wr.drewN nq) := Below.trans lk (below_drewN (Below.refl _ _) _)
          obtain ⟨z0, z1, z2, z3, z4, z5⟩ := hc _ lq
          generalize wr.drewN nq = W2 at lq z0 z1 z2 z3 z4 z5 ⊢
          clear q0 q1 q2 q3 q4 q5 p0 p1 p2 p3 p4 p5 hc lk
          unfold nB rB tB lB at hr
          rw [hn] at hr
          generalize (i != 0) = vi at hr ⊢
          generalize (FloatKind.f32.format.order r 0 != some Ordering.eq) = vr at hr ⊢
          generalize (!text.toList.isEmpty) = vt at hr ⊢
          generalize decide (0 < k) = vl at hr ⊢
          have fin : Later w W2 := hw1.next lq
          by_cases k1 : kind = 1
          · subst k1
            have hr2 : Hid (R = errV (!(vi || vr || vt || vl))) := hid (by rw [hr.out]; simp [kindV])
            clear hr
            go_wp2_with fail
            all_goals
              go_ret
              exact ⟨by rw [hr2.out]; simp_all [errV], fin⟩
          · have e1 : (kind == 1) = false := by simp [k1]
            by_cases k2 : kind = 2
            · subst k2
              have hr2 : Hid (R = errV (!(b || vr || vt || vl))) := hid (by rw [hr.out]; simp [kindV])
              clear hr
              go_wp2_with fail
              all_goals
                go_ret
                exact ⟨by rw [hr2.out]; simp_all [errV], fin⟩
            · have e2 : (kind == 2) = false := by simp [k2]
              by_cases k3 : kind = 3
              · subst k3
                have hr2 : Hid (R = errV (!(b || vi || vt || vl))) := hid (by rw [hr.out]; simp [kindV])
                clear hr
                go_wp2_with fail
                all_goals
                  go_ret
                  exact ⟨by rw [hr2.out]; simp_all [errV], fin⟩
              · have e3 : (kind == 3) = false := by simp [k3]
                by_cases k4 : kind = 4
                · subst k4
                  have hr2 : Hid (R = errV (!(b || vi || vr || vl))) := hid (by rw [hr.out]; simp [kindV])
                  clear hr
                  go_wp2_with fail
                  all_goals
                    go_ret
                    exact ⟨by rw [hr2.out]; simp_all [errV], fin⟩
                · have e4 : (kind == 4) = false := by simp [k4]
                  by_cases k5 : kind = 5
                  · subst k5
                    have hr2 : Hid (R = errV (!(b || vi || vr || vt))) := hid (by rw [hr.out]; simp [kindV])
                    clear hr
                    go_wp2_with fail
                    all_goals
                      go_ret
                      exact ⟨by rw [hr2.out]; simp_all [errV], fin⟩
                  · have e5 : (kind == 5) = false := by simp [k5]
                    have hr2 : Hid (R = 40) := hid (by rw [hr.out]; simp [kindV, errV, k1, k2, k3, k4, k5])
                    clear hr k1 k2 k3 k4 k5
                    go_wp2_with fail
                    all_goals
                      go_ret
                      exact ⟨by rw [hr2.out]; rfl, fin⟩
    · have hr : Hid (R = 40) := hid (by rw [← hR]; simp [errV, okV, smallV, hn, h2])
      have d1 : decide (256 < text.size) = false := by simp; omega
      have d2 : decide (32 < n) = true := by simp; omega
      clear hR
      go_wp2_with fail
      go_ret
      exact ⟨by rw [hr.out]; rfl, hw1⟩
  · have hr : Hid (R = 40) := hid (by rw [← hR]; simp [errV, okV, smallV, h1])
    have d1 : decide (256 < text.size) = true := by simp; omega
    clear hR
    go_wp2_with fail
    go_ret
    exact ⟨by rw [hr.out]; rfl, hw1⟩
/-- a value, but for its texts -/
structure ValV where
  kind : Int
  b : Bool
  i : Int
  r : Nat
  text : ByteArray
abbrev ValV.v (x : ValV) (t : Value) : Value := .agg #[.int .i64 x.kind, .bool x.b, .int .i64 x.i, .float .f32 x.r, .string x.text, t]
abbrev ValV.ls (x : ValV) (t : Value) : List Value := [.int .i64 x.kind, .bool x.b, .int .i64 x.i, .float .f32 x.r, .string x.text, t]
abbrev ValV.ok (x : ValV) (l : List ByteArray) : Bool := okV x.kind x.b x.i x.r x.text l
set_option maxHeartbeats 8000000 in
set_option maxRecDepth 100000 in
theorem may_any (x y : ValV) {l m : List ByteArray} {w : World} {A B : Option Addr} {n1 n2 c c' : Nat} (hA : TxtAt w A l) (hB : TxtAt w B m) (hn1 : l.length = n1) (hn2 : m.length = n2) (hz1 : n1 ≤ 8796093022080) (hz2 : n2 ≤ 8796093022080) :
    Calls Tryz.prog 51 #[x.v (.slice A n1 c), y.v (.slice B n2 c')] w fun e w' => e = .returned (.bool (x.ok l && y.ok m)) ∧ Later w w' := by
  obtain ⟨hw2, hc⟩ := two_boxes (x.ls (.slice A n1 c)) (y.ls (.slice B n2 c')) 55 w
  have k1 := fun W (h : Later w W) => check_any x.kind x.b x.i x.r x.text (c := c) (hA.later h) hn1 hz1
  have k2 := fun W (h : Later w W) => check_any y.kind y.b y.i y.r y.text (c := c') (hB.later h) hn2 hz2
  unfold ValV.ok
  generalize okV x.kind x.b x.i x.r x.text l = o1 at k1 ⊢
  generalize okV y.kind y.b y.i y.r y.text m = o2 at k2 ⊢
  go_enter Tryz.func51, Tryz.ntmps51
  go_upto_region 1 with fail
  generalize (w.alloc (.cells (x.ls (.slice A n1 c)).toArray 55)).alloc (.cells (y.ls (.slice B n2 c')).toArray 55) = W2 at hc hw2 ⊢
  have hcc : ∀ V, Later W2 V → (V.cell? ⟨w.heap.size, 0, none⟩ = some (.int .i64 x.kind) ∧ V.cell? ⟨w.heap.size, 1, none⟩ = some (.bool x.b) ∧ V.cell? ⟨w.heap.size, 2, none⟩ = some (.int .i64 x.i) ∧ V.cell? ⟨w.heap.size, 3, none⟩ = some (.float .f32 x.r) ∧ V.cell? ⟨w.heap.size, 4, none⟩ = some (.string x.text) ∧ V.cell? ⟨w.heap.size, 5, none⟩ = some (.slice A n1 c)) ∧ (V.cell? ⟨w.heap.size + 1, 0, none⟩ = some (.int .i64 y.kind) ∧ V.cell? ⟨w.heap.size + 1, 1, none⟩ = some (.bool y.b) ∧ V.cell? ⟨w.heap.size + 1, 2, none⟩ = some (.int .i64 y.i) ∧ V.cell? ⟨w.heap.size + 1, 3, none⟩ = some (.float .f32 y.r) ∧ V.cell? ⟨w.heap.size + 1, 4, none⟩ = some (.string y.text) ∧ V.cell? ⟨w.heap.size + 1, 5, none⟩ = some (.slice B n2 c')) := fun V l =>
    ⟨⟨(hc V l).1 0 _ rfl, (hc V l).1 1 _ rfl, (hc V l).1 2 _ rfl, (hc V l).1 3 _ rfl, (hc V l).1 4 _ rfl, (hc V l).1 5 _ rfl⟩, ⟨(hc V l).2 0 _ rfl, (hc V l).2 1 _ rfl, (hc V l).2 2 _ rfl, (hc V l).2 3 _ rfl, (hc V l).2 4 _ rfl, (hc V l).2 5 _ rfl⟩⟩
  clear hc
  obtain ⟨⟨p0, p1, p2, p3, p4, p5⟩, ⟨q0, q1, q2, q3, q4, q5⟩⟩ := hcc W2 (Later.refl _)
  cases o1 with
  | false =>
    have e0 : errV false = 40 := rfl
    rw [e0] at k1
    go_wp2_with (go_at_call 39; refine (k1 _ hw2).mono ?_; rintro e w3 ⟨rfl, l3⟩)
    go_ret
    exact ⟨rfl, hw2.next l3⟩
  | true =>
    have e0 : errV true = 0 := rfl
    rw [e0] at k1
    cases o2 with
    | false =>
      have e1 : errV false = 40 := rfl
      rw [e1] at k2
      go_wp2_with (first
        | (go_at_call 39; (with_reducible refine (k1 _ hw2).mono ?_); rintro e w3 ⟨rfl, l3⟩; obtain ⟨_, ⟨s0, s1, s2, s3, s4, s5⟩⟩ := hcc _ l3)
        | (go_at_call 39; (with_reducible refine (k2 _ (hw2.next l3)).mono ?_); rintro e w4 ⟨rfl, l4⟩))
      go_ret
      exact ⟨rfl, hw2.next (l3.next l4)⟩
    | true =>
      rw [e0] at k2
      go_wp2_with (first
        | (go_at_call 39; (with_reducible refine (k1 _ hw2).mono ?_); rintro e w3 ⟨rfl, l3⟩; obtain ⟨_, ⟨s0, s1, s2, s3, s4, s5⟩⟩ := hcc _ l3)
        | (go_at_call 39; (with_reducible refine (k2 _ (hw2.next l3)).mono ?_); rintro e w4 ⟨rfl, l4⟩))
      go_ret
      exact ⟨rfl, hw2.next (l3.next l4)⟩
def nanR (r : Nat) : Bool := FloatKind.f32.format.order r r != some Ordering.eq
def keyR (r : Nat) : Int := if nanR r = true then 4290772992 else if ((r : Int) / 2147483648 == 1) = true then bits BinOp.xor IntKind.u32 IntKind.u32.max (r : Int) else bits BinOp.or IntKind.u32 (r : Int) 2147483648
set_option maxHeartbeats 8000000 in
set_option maxRecDepth 100000 in
theorem key_any (r : Nat) (w : World) : Calls Tryz.prog 79 #[.float .f32 r] w fun e w' => e = .returned (.int .u32 (keyR r)) ∧ w = w' := by
  have h48 := bits_run r
  unfold keyR nanR
  go_enter Tryz.func79, Tryz.ntmps79
  cases hq : (FloatKind.f32.format.order r r != some Ordering.eq) with
  | true =>
    go_wp2_with fail
    go_ret
    exact ⟨rfl, rfl⟩
  | false =>
    go_wp2_with fail
    all_goals
      go_ret
      exact ⟨by simp_all, rfl⟩
theorem reals_same (a b : Nat) (w : World) : Calls Tryz.prog 52 #[.float .f32 a, .float .f32 b] w fun e w' => e = .returned (.bool (keyR a == keyR b)) ∧ w = w' := by
  go_enter Tryz.func52, Tryz.ntmps52
  have k1 := fun W => key_any a W
  have k2 := fun W => key_any b W
  generalize keyR a = x at k1 ⊢
  generalize keyR b = y at k2 ⊢
  go_wp2_with (first
    | (go_at_call 79; (with_reducible refine (k1 _).mono ?_); rintro e w3 ⟨rfl, rfl⟩)
    | (go_at_call 79; (with_reducible refine (k2 _).mono ?_); rintro e w3 ⟨rfl, rfl⟩))
  go_ret
  exact ⟨rfl, rfl⟩
/-- the program's way -/
def sameP (x y : ValV) (l m : List ByteArray) : Bool :=
  (x.ok l && y.ok m) && x.kind == y.kind && (if x.kind = 1 then x.b == y.b else if x.kind = 2 then x.i == y.i else if x.kind = 3 then keyR x.r == keyR y.r else if x.kind = 4 then x.text.toList == y.text.toList else decide (l = m))
set_option maxHeartbeats 8000000 in
set_option maxRecDepth 100000 in
theorem same_any (x y : ValV) {l m : List ByteArray} {w : World} {A B : Option Addr} {n1 n2 c c' : Nat} (hA : TxtAt w A l) (hB : TxtAt w B m) (hn1 : l.length = n1) (hn2 : m.length = n2) (hz1 : n1 ≤ 8796093022080) (hz2 : n2 ≤ 8796093022080) :
    Calls Tryz.prog 28 #[x.v (.slice A n1 c), y.v (.slice B n2 c')] w fun e w' => e = .returned (.bool (sameP x y l m)) ∧ Later w w' := by
  obtain ⟨R, hR⟩ : ∃ R, sameP x y l m = R := ⟨_, rfl⟩
  rw [hR]
  have hr : Hid (R = sameP x y l m) := hid hR.symm
  clear hR
  obtain ⟨hw2, hc⟩ := two_boxes (x.ls (.slice A n1 c)) (y.ls (.slice B n2 c')) 55 w
  have k1 := fun W (h : Later w W) => may_any x y (c := c) (c' := c') (hA.later h) (hB.later h) hn1 hn2 hz1 hz2
  have k2 := fun W (h : Later w W) => eq_texts (c := c) (c' := c') (hA.later h) (hB.later h) hn1 hn2 hz1
  have k3 := fun W => reals_same x.r y.r W
  unfold sameP at hr
  generalize (x.ok l && y.ok m) = o at k1 hr
  generalize decide (l = m) = qt at k2 hr
  generalize (keyR x.r == keyR y.r) = qr at k3 hr
  go_enter Tryz.func28, Tryz.ntmps28
  go_upto_region 1 with fail
  generalize (w.alloc (.cells (x.ls (.slice A n1 c)).toArray 55)).alloc (.cells (y.ls (.slice B n2 c')).toArray 55) = W2 at hc hw2 ⊢
  have hcc : ∀ V, Later W2 V → (V.cell? ⟨w.heap.size, 0, none⟩ = some (.int .i64 x.kind) ∧ V.cell? ⟨w.heap.size, 1, none⟩ = some (.bool x.b) ∧ V.cell? ⟨w.heap.size, 2, none⟩ = some (.int .i64 x.i) ∧ V.cell? ⟨w.heap.size, 3, none⟩ = some (.float .f32 x.r) ∧ V.cell? ⟨w.heap.size, 4, none⟩ = some (.string x.text) ∧ V.cell? ⟨w.heap.size, 5, none⟩ = some (.slice A n1 c)) ∧ (V.cell? ⟨w.heap.size + 1, 0, none⟩ = some (.int .i64 y.kind) ∧ V.cell? ⟨w.heap.size + 1, 1, none⟩ = some (.bool y.b) ∧ V.cell? ⟨w.heap.size + 1, 2, none⟩ = some (.int .i64 y.i) ∧ V.cell? ⟨w.heap.size + 1, 3, none⟩ = some (.float .f32 y.r) ∧ V.cell? ⟨w.heap.size + 1, 4, none⟩ = some (.string y.text) ∧ V.cell? ⟨w.heap.size + 1, 5, none⟩ = some (.slice B n2 c')) := fun V l =>
    ⟨⟨(hc V l).1 0 _ rfl, (hc V l).1 1 _ rfl, (hc V l).1 2 _ rfl, (hc V l).1 3 _ rfl, (hc V l).1 4 _ rfl, (hc V l).1 5 _ rfl⟩, ⟨(hc V l).2 0 _ rfl, (hc V l).2 1 _ rfl, (hc V l).2 2 _ rfl, (hc V l).2 3 _ rfl, (hc V l).2 4 _ rfl, (hc V l).2 5 _ rfl⟩⟩
  clear hc
  obtain ⟨⟨p0, p1, p2, p3, p4, p5⟩, ⟨q0, q1, q2, q3, q4, q5⟩⟩ := hcc W2 (Later.refl _)
  cases o with
  | false =>
    have hr2 : Hid (R = false) := hid (by rw [hr.out]; rfl)
    clear hr
    go_wp2_with (go_at_call 51; (with_reducible refine (k1 _ hw2).mono ?_); rintro e w3 ⟨rfl, l3⟩)
    go_ret
    exact ⟨by rw [hr2.out]; rfl, hw2.next l3⟩
  | true =>
    by_cases hk : x.kind = y.kind
    · have hk1 : (x.kind != y.kind) = false := by simp [hk]
      replace hk := hid hk
      go_upto_region 3 with (go_at_call 51; (with_reducible refine (k1 _ hw2).mono ?_); rintro e w3 ⟨rfl, l3⟩; obtain ⟨⟨s0, s1, s2, s3, s4, s5⟩, ⟨t0, t1, t2, t3, t4, t5⟩⟩ := hcc _ l3)
      clear p0 p1 p2 p3 p4 p5 q0 q1 q2 q3 q4 q5 hcc k1
      have hr2 : Hid (R = (if x.kind = 1 then x.b == y.b else if x.kind = 2 then x.i == y.i else if x.kind = 3 then qr else if x.kind = 4 then x.text.toList == y.text.toList else qt)) := hid (by rw [hr.out, hk.out]; simp)
      clear hr hk hk1 t0
      by_cases e1 : x.kind = 1
      · have g1 : (x.kind == 1) = true := by simp [e1]
        have hr3 : Hid (R = (x.b == y.b)) := hid (by rw [hr2.out, if_pos e1])
        clear hr2
        replace e1 := hid e1
        go_wp2_with fail
        go_ret
        exact ⟨by rw [hr3.out]; rfl, hw2.next l3⟩
      · have g1 : (x.kind == 1) = false := by simp [e1]
        by_cases e2 : x.kind = 2
        · have g2 : (x.kind == 2) = true := by simp [e2]
          have hr3 : Hid (R = (x.i == y.i)) := hid (by rw [hr2.out, if_neg e1, if_pos e2])
          clear hr2
          replace e1 := hid e1
          replace e2 := hid e2
          go_wp2_with fail
          go_ret
          exact ⟨by rw [hr3.out]; rfl, hw2.next l3⟩
        · have g2 : (x.kind == 2) = false := by simp [e2]
          by_cases e3 : x.kind = 3
          · have g3 : (x.kind == 3) = true := by simp [e3]
            have hr3 : Hid (R = qr) := hid (by rw [hr2.out, if_neg e1, if_neg e2, if_pos e3])
            clear hr2
            replace e1 := hid e1
            replace e2 := hid e2
            replace e3 := hid e3
            go_wp2_with (go_at_call 52; (with_reducible refine (k3 _).mono ?_); rintro e w4 ⟨rfl, rfl⟩)
            go_ret
            exact ⟨by rw [hr3.out]; rfl, hw2.next l3⟩
          · have g3 : (x.kind == 3) = false := by simp [e3]
            by_cases e4 : x.kind = 4
            · have g4 : (x.kind == 4) = true := by simp [e4]
              have hr3 : Hid (R = (x.text.toList == y.text.toList)) := hid (by rw [hr2.out, if_neg e1, if_neg e2, if_neg e3, if_pos e4])
              clear hr2
              replace e1 := hid e1
              replace e2 := hid e2
              replace e3 := hid e3
              replace e4 := hid e4
              go_wp2_with fail
              go_ret
              exact ⟨by rw [hr3.out]; rfl, hw2.next l3⟩
            · have g4 : (x.kind == 4) = false := by simp [e4]
              have hr3 : Hid (R = qt) := hid (by rw [hr2.out, if_neg e1, if_neg e2, if_neg e3, if_neg e4])
              clear hr2
              replace e1 := hid e1
              replace e2 := hid e2
              replace e3 := hid e3
              replace e4 := hid e4
              go_wp2_with (go_at_call 53; (with_reducible refine (k2 _ (hw2.next l3)).mono ?_); rintro e w4 ⟨rfl, l4⟩)
              go_ret
              exact ⟨by rw [hr3.out]; rfl, (hw2.next l3).next l4⟩
    · have hk1 : (x.kind != y.kind) = true := by simp [hk]
      have hr2 : Hid (R = false) := hid (by rw [hr.out]; simp [hk])
      clear hr
      replace hk := hid hk
      go_wp2_with (go_at_call 51; (with_reducible refine (k1 _ hw2).mono ?_); rintro e w3 ⟨rfl, l3⟩; obtain ⟨⟨s0, s1, s2, s3, s4, s5⟩, ⟨t0, t1, t2, t3, t4, t5⟩⟩ := hcc _ l3)
      go_ret
      exact ⟨by rw [hr2.out]; rfl, hw2.next l3⟩
abbrev ArgV.val (x : ArgV) : ValV := ⟨x.kind, x.b, x.i, x.r, x.text⟩
def sameA (a b : Arg) : Bool := a.x.name.toList == b.x.name.toList && sameP a.x.val b.x.val a.l b.l
def allA : List Arg → List Arg → Bool
  | a :: L, b :: M => sameA a b && allA L M
  | [], [] => true
  | _, _ => false
theorem allA_len : ∀ {L M : List Arg}, L.length ≠ M.length → allA L M = false
  | a :: L, b :: M, h => by
    unfold allA
    rw [allA_len (L := L) (M := M) (by simpa using h), Bool.and_false]
  | [], [], h => by simp at h
  | [], b :: M, h => rfl
  | a :: L, [], h => rfl
theorem allA_drop {L M : List Arg} {k : Nat} {a b : Arg} (ha : L[k]? = some a) (hb : M[k]? = some b) : allA (L.drop k) (M.drop k) = (sameA a b && allA (L.drop (k + 1)) (M.drop (k + 1))) := by
  obtain ⟨h1, e1⟩ := List.getElem?_eq_some_iff.1 ha
  obtain ⟨h2, e2⟩ := List.getElem?_eq_some_iff.1 hb
  rw [List.drop_eq_getElem_cons h1, List.drop_eq_getElem_cons h2, e1, e2]
  rfl
theorem allA_end {L M : List Arg} {k : Nat} (ha : L.length = k) (hb : M.length = k) : allA (L.drop k) (M.drop k) = true := by
  rw [List.drop_of_length_le (by omega), List.drop_of_length_le (by omega)]
  rfl
set_option maxHeartbeats 8000000 in
set_option maxRecDepth 100000 in
theorem samearg_any (x y : ArgV) {l m : List ByteArray} {w : World} {A B : Option Addr} {n1 n2 c c' : Nat} (hA : TxtAt w A l) (hB : TxtAt w B m) (hn1 : l.length = n1) (hn2 : m.length = n2) (hz1 : n1 ≤ 8796093022080) (hz2 : n2 ≤ 8796093022080) :
    Calls Tryz.prog 27 #[x.v (.slice A n1 c), y.v (.slice B n2 c')] w fun e w' => e = .returned (.bool (sameA ⟨x, l⟩ ⟨y, m⟩)) ∧ Later w w' := by
  obtain ⟨R, hR⟩ : ∃ R, sameA ⟨x, l⟩ ⟨y, m⟩ = R := ⟨_, rfl⟩
  rw [hR]
  have hr : Hid (R = sameA ⟨x, l⟩ ⟨y, m⟩) := hid hR.symm
  clear hR
  obtain ⟨hw2, hc⟩ := two_boxes (x.row (.slice A n1 c)) (y.row (.slice B n2 c')) 57 w
  have k1 := fun W (h : Later w W) => same_any x.val y.val (c := c) (c' := c') (hA.later h) (hB.later h) hn1 hn2 hz1 hz2
  unfold sameA at hr
  generalize sameP x.val y.val l m = o at k1 hr
  go_enter Tryz.func27, Tryz.ntmps27
  go_upto_region 1 with fail
  generalize (w.alloc (.cells (x.row (.slice A n1 c)).toArray 57)).alloc (.cells (y.row (.slice B n2 c')).toArray 57) = W2 at hc hw2 ⊢
  have p0 := (hc W2 (Later.refl _)).1 0 _ rfl
  have p1 := (hc W2 (Later.refl _)).1 1 _ rfl
  have p2 := (hc W2 (Later.refl _)).1 2 _ rfl
  have p3 := (hc W2 (Later.refl _)).1 3 _ rfl
  have p4 := (hc W2 (Later.refl _)).1 4 _ rfl
  have p5 := (hc W2 (Later.refl _)).1 5 _ rfl
  have p6 := (hc W2 (Later.refl _)).1 6 _ rfl
  have q0 := (hc W2 (Later.refl _)).2 0 _ rfl
  have q1 := (hc W2 (Later.refl _)).2 1 _ rfl
  have q2 := (hc W2 (Later.refl _)).2 2 _ rfl
  have q3 := (hc W2 (Later.refl _)).2 3 _ rfl
  have q4 := (hc W2 (Later.refl _)).2 4 _ rfl
  have q5 := (hc W2 (Later.refl _)).2 5 _ rfl
  have q6 := (hc W2 (Later.refl _)).2 6 _ rfl
  clear hc
  cases hn : (x.name.toList == y.name.toList) with
  | false =>
    have hr2 : Hid (R = false) := hid (by rw [hr.out]; simp only [hn, Bool.false_and])
    clear hr
    go_wp2_with fail
    go_ret
    exact ⟨by rw [hr2.out]; rfl, hw2⟩
  | true =>
    have hr2 : Hid (R = o) := hid (by rw [hr.out]; simp only [hn, Bool.true_and])
    clear hr
    go_wp2_with (go_at_call 28; (with_reducible refine (k1 _ hw2).mono ?_); rintro e w3 ⟨rfl, l3⟩)
    go_ret
    exact ⟨by rw [hr2.out]; rfl, hw2.next l3⟩
attribute [local go_sem] run_store_float in
set_option maxHeartbeats 8000000 in
set_option maxRecDepth 100000 in
theorem eqfunc_any {L M : List Arg} {w : World} {A B : Option Addr} {n m c c' : Nat} (hA : ArgsAt w A L) (hB : ArgsAt w B M) (hn : L.length = n) (hm : M.length = m) (hz : n ≤ 2000000000000) :
    Calls Tryz.prog 26 #[.slice A n c, .slice B m c', .func (.func 27) #[] #[]] w fun e w' => e = .returned (.bool (allA L M)) ∧ Later w w' := by
  obtain ⟨R, hR⟩ : ∃ R, allA L M = R := ⟨_, rfl⟩
  rw [hR]
  replace hR := hid hR
  by_cases hnm : n = m
  · subst hnm
    go_enter Tryz.func26, Tryz.ntmps26
    go_wp2_with fail
    go_loopw [17] (fun i wr => ∃ k : Nat, k ≤ n ∧ i = .int .i64 k ∧ Hid (R = allA (L.drop k) (M.drop k)) ∧ Later w wr) (fun i _ => n - (intOf i).toNat)
    case atStart => exact ⟨0, Nat.zero_le _, rfl, hid hR.out.symm, Later.refl _⟩
    case round =>
      obtain ⟨k, hk, rfl, hp, lk⟩ := hrel
      by_cases hlt : k < n
      · obtain ⟨a, ha⟩ : ∃ a, L[k]? = some a := ⟨_, List.getElem?_eq_getElem (by omega)⟩
        obtain ⟨a', ha'⟩ : ∃ a, M[k]? = some a := ⟨_, List.getElem?_eq_getElem (by omega)⟩
        obtain ⟨b, o, TA, tc, rfl, h7, ht, hlz⟩ := hA.later lk k a ha
        obtain ⟨b', o', TB, tc', rfl, h7', ht', hlz'⟩ := hB.later lk k a' ha'
        have hp2 : Hid (R = (sameA a a' && allA (L.drop (k + 1)) (M.drop (k + 1)))) := hid (by rw [hp.out, allA_drop ha ha'])
        obtain ⟨x, l⟩ := a
        obtain ⟨y, l'⟩ := a'
        obtain ⟨n1, hn1⟩ : ∃ n1, l.length = n1 := ⟨_, rfl⟩
        obtain ⟨n2, hn2⟩ : ∃ n2, l'.length = n2 := ⟨_, rfl⟩
        simp only at h7 h7' ht ht' hlz hlz'
        rw [hn1] at h7 hlz
        rw [hn2] at h7' hlz'
        have l1 : Later wr (wr.alloc (.cells (x.row (.slice TA n1 tc)).toArray 57)) := (Later.refl _).alloc _
        have h8 := h7'.later l1
        obtain ⟨hw2, hc⟩ := two_boxes (x.row (.slice TA n1 tc)) (y.row (.slice TB n2 tc')) 57 wr
        have k1 := fun W (h : Later wr W) => samearg_any x y (c := tc) (c' := tc') (ht.later h) (ht'.later h) hn1 hn2 hlz hlz'
        generalize sameA ⟨x, l⟩ ⟨y, l'⟩ = q at k1 hp2
        clear ha ha' hp h7' hlz hlz' hn1 hn2
        unfold Seven at h7 h8
        go_upto_region 7 with fail
        generalize (wr.alloc (.cells (x.row (.slice TA n1 tc)).toArray 57)).alloc (.cells (y.row (.slice TB n2 tc')).toArray 57) = W2 at hc hw2 ⊢
        clear h7 h8 l1
        have p0 := (hc W2 (Later.refl _)).1 0 _ rfl
        have p1 := (hc W2 (Later.refl _)).1 1 _ rfl
        have p2 := (hc W2 (Later.refl _)).1 2 _ rfl
        have p3 := (hc W2 (Later.refl _)).1 3 _ rfl
        have p4 := (hc W2 (Later.refl _)).1 4 _ rfl
        have p5 := (hc W2 (Later.refl _)).1 5 _ rfl
        have p6 := (hc W2 (Later.refl _)).1 6 _ rfl
        have q0 := (hc W2 (Later.refl _)).2 0 _ rfl
        have q1 := (hc W2 (Later.refl _)).2 1 _ rfl
        have q2 := (hc W2 (Later.refl _)).2 2 _ rfl
        have q3 := (hc W2 (Later.refl _)).2 3 _ rfl
        have q4 := (hc W2 (Later.refl _)).2 4 _ rfl
        have q5 := (hc W2 (Later.refl _)).2 5 _ rfl
        have q6 := (hc W2 (Later.refl _)).2 6 _ rfl
        clear hc
        cases q with
        | false =>
          have hr : Hid (R = false) := hid (by rw [hp2.out]; rfl)
          go_wp2_with (go_at_call 27; (with_reducible refine (k1 _ hw2).mono ?_); rintro e w3 ⟨rfl, l3⟩)
          go_ret
          exact ⟨by rw [hr.out]; rfl, (lk.next hw2).next l3⟩
        | true =>
          have hr : Hid (R = allA (L.drop (k + 1)) (M.drop (k + 1))) := hid (by rw [hp2.out]; rfl)
          go_wp2_with (go_at_call 27; (with_reducible refine (k1 _ hw2).mono ?_); rintro e w3 ⟨rfl, l3⟩)
          go_roundw
          case rel => exact ⟨k + 1, by omega, by go_num, hr, (lk.next hw2).next l3⟩
          case measure => simp [intOf]; omega
      · obtain rfl : k = n := by omega
        have hr : Hid (R = true) := hid (by rw [hp.out, allA_end hn hm])
        go_wp2_with fail
        go_ret
        exact ⟨by rw [hr.out]; rfl, lk⟩
  · have hr : Hid (R = false) := hid (by rw [← hR.out, allA_len (by rw [hn, hm]; exact hnm)])
    have hd : ((n : Int) == (m : Int)) = false := by simp; omega
    have hd2 : ((n : Int) != (m : Int)) = true := by simp; omega
    go_enter Tryz.func26, Tryz.ntmps26
    go_wp2_with fail
    go_ret
    exact ⟨by rw [hr.out]; rfl, Later.refl _⟩
attribute [local go_sem] run_store_float in
set_option maxHeartbeats 8000000 in
set_option maxRecDepth 100000 in
theorem sameargs_any {L M : List Arg} {w : World} {A B : Option Addr} {n m c c' : Nat} (hA : ArgsAt w A L) (hB : ArgsAt w B M) (hn : L.length = n) (hm : M.length = m) (hz : n ≤ 2000000000000) :
    Calls Tryz.prog 12 #[.slice A n c, .slice B m c'] w fun e w' => e = .returned (.bool (allA L M)) ∧ Later w w' := by
  have k1 := eqfunc_any (c := c) (c' := c') hA hB hn hm hz
  go_enter Tryz.func12, Tryz.ntmps12
  go_wp2_with (go_at_call 26; (with_reducible refine k1.mono ?_); rintro e w3 ⟨rfl, l3⟩)
  go_ret
  exact ⟨rfl, l3⟩
theorem eq27 (a b c d : ByteArray) (w : World) : (binOp .eql 23 (.agg #[.string a, .string b]) (.agg #[.string c, .string d])).run Tryz.prog w = .ok (.bool (a.toList == c.toList && b.toList == d.toList)) w := by
  simp [go_sem]
  by_cases h1 : a.toList = c.toList <;> by_cases h2 : b.toList = d.toList <;> simp [h1, h2]
theorem eq23 (a b c d e f : ByteArray) (w : World) : (binOp .eql 25 (.agg #[.string a, .string b, .string c]) (.agg #[.string d, .string e, .string f])).run Tryz.prog w = .ok (.bool (a.toList == d.toList && b.toList == e.toList && c.toList == f.toList)) w := by
  simp [go_sem]
  by_cases h1 : a.toList = d.toList <;> by_cases h2 : b.toList = e.toList <;> by_cases h3 : c.toList = f.toList <;> simp [h1, h2, h3]
def sameT (x y : TupV) (s : Bool) : Bool := (x.t0.toList == y.t0.toList && x.t1.toList == y.t1.toList) && ((x.t2.toList == y.t2.toList) && ((x.t3.toList == y.t3.toList && x.t4.toList == y.t4.toList && x.t5.toList == y.t5.toList) && ((x.t6.toList == y.t6.toList) && s)))
set_option maxHeartbeats 8000000 in
set_option maxRecDepth 100000 in
theorem sametup_any (x y : TupV) {L M : List Arg} {w : World} {A B : Option Addr} {n m c c' : Nat} (hA : ArgsAt w A L) (hB : ArgsAt w B M) (hn : L.length = n) (hm : M.length = m) (hz : n ≤ 2000000000000) :
    Calls Tryz.prog 8 #[x.v (.slice A n c), y.v (.slice B m c')] w fun e w' => e = .returned (.bool (sameT x y (allA L M))) ∧ Later w w' := by
  obtain ⟨R, hR⟩ : ∃ R, sameT x y (allA L M) = R := ⟨_, rfl⟩
  rw [hR]
  have hr : Hid (R = sameT x y (allA L M)) := hid hR.symm
  clear hR
  obtain ⟨hw2, hc⟩ := two_tuples x y (.slice A n c) (.slice B m c') w
  have k1 := fun W (h : Later w W) => sameargs_any (c := c) (c' := c') (hA.later h) (hB.later h) hn hm hz
  have e1 := fun W => eq27 x.t0 x.t1 y.t0 y.t1 W
  have e2 := fun W => eq23 x.t3 x.t4 x.t5 y.t3 y.t4 y.t5 W
  unfold sameT at hr
  generalize allA L M = o at k1 hr
  generalize (x.t0.toList == y.t0.toList && x.t1.toList == y.t1.toList) = b1 at e1 hr
  generalize (x.t3.toList == y.t3.toList && x.t4.toList == y.t4.toList && x.t5.toList == y.t5.toList) = b3 at e2 hr
  go_enter Tryz.func8, Tryz.ntmps8
  go_upto_region 1 with fail
  generalize (w.alloc (x.o (.slice A n c))).alloc (y.o (.slice B m c')) = W2 at hc hw2 ⊢
  obtain ⟨⟨p0, p1, p2, p3, p4, p5, p6, p7⟩, ⟨q0, q1, q2, q3, q4, q5, q6, q7⟩⟩ := hc W2 (Later.refl _)
  clear hc
  cases b1 with
  | false =>
    have hr2 : Hid (R = false) := hid (by rw [hr.out]; simp)
    clear hr
    go_wp2_with fail
    go_ret
    exact ⟨by rw [hr2.out]; rfl, hw2⟩
  | true =>
    cases g2 : (x.t2.toList == y.t2.toList) with
    | false =>
      have hr2 : Hid (R = false) := hid (by rw [hr.out, g2]; simp)
      clear hr
      go_wp2_with fail
      go_ret
      exact ⟨by rw [hr2.out]; rfl, hw2⟩
    | true =>
      cases b3 with
      | false =>
        have hr2 : Hid (R = false) := hid (by rw [hr.out, g2]; simp)
        clear hr
        go_wp2_with fail
        go_ret
        exact ⟨by rw [hr2.out]; rfl, hw2⟩
      | true =>
        cases g6 : (x.t6.toList == y.t6.toList) with
        | false =>
          have hr2 : Hid (R = false) := hid (by rw [hr.out, g2, g6]; simp)
          clear hr
          go_wp2_with fail
          go_ret
          exact ⟨by rw [hr2.out]; rfl, hw2⟩
        | true =>
          have hr2 : Hid (R = o) := hid (by rw [hr.out, g2, g6]; simp)
          clear hr
          go_wp2_with (go_at_call 12; (with_reducible refine (k1 _ hw2).mono ?_); rintro e w3 ⟨rfl, l3⟩)
          go_ret
          exact ⟨by rw [hr2.out]; rfl, hw2.next l3⟩
/-- a tuple's box -/
structure Box8 (V : World) (b : Nat) (x : TupV) (t : Value) : Prop where
  c : V.heap[b]? = some (x.o t)
theorem Box8.later {V W : World} {b : Nat} {x : TupV} {t : Value} (h : Box8 V b x t) (l : Later V W) : Box8 W b x t := ⟨(l.block b (Array.getElem?_eq_some_iff.1 h.c).1).trans h.c⟩
theorem Box8.cells {V : World} {b : Nat} {x : TupV} {t : Value} (h : Box8 V b x t) : V.cell? ⟨b, 0, none⟩ = some (.string x.t0) ∧ V.cell? ⟨b, 1, none⟩ = some (.string x.t1) ∧ V.cell? ⟨b, 2, none⟩ = some (.string x.t2) ∧ V.cell? ⟨b, 3, none⟩ = some (.string x.t3) ∧ V.cell? ⟨b, 4, none⟩ = some (.string x.t4) ∧ V.cell? ⟨b, 5, none⟩ = some (.string x.t5) ∧ V.cell? ⟨b, 6, none⟩ = some (.string x.t6) ∧ V.cell? ⟨b, 7, none⟩ = some t := (eight h.c).1
theorem add_plain (b f n : Nat) : (⟨b, f, none⟩ : Addr).add n = ⟨b, f + n, none⟩ := by
  unfold Addr.add
  split
  · next h => rw [h, Nat.add_zero]
  · rfl
/-- what a cell's row holds, chosen for all places at once -/
theorem choose_row {α : Type} {P : Nat → α → Prop} : ∀ (n : Nat), (∀ i, i < n → ∃ x, P i x) → ∃ l : List α, l.length = n ∧ ∀ i x, l[i]? = some x → P i x
  | 0, _ => ⟨[], rfl, fun i x h => by simp at h⟩
  | n + 1, h => by
    obtain ⟨l, hl, hp⟩ := choose_row n (fun i hi => h i (by omega))
    obtain ⟨x, hx⟩ := h n (by omega)
    refine ⟨l ++ [x], by simp [hl], fun i y hy => ?_⟩
    by_cases hi : i < n
    · rw [List.getElem?_append_left (by omega)] at hy
      exact hp i y hy
    · by_cases he : i = n
      · subst he
        rw [List.getElem?_append_right (by omega), hl, Nat.sub_self] at hy
        simp at hy
        subst hy
        exact hx
      · rw [List.getElem?_append_right (by omega)] at hy
        simp only [hl] at hy
        rw [List.getElem?_eq_none (by simp; omega)] at hy
        cases hy

theorem mem_all {H : Type} {P : Program} {e : TypeId} {d : DataW H} {n : Nat} : ∀ {l : List (DataW H)}, d ∈ l → n ∈ d.weights P e → n ∈ DataW.weightsAll P e l
  | x :: r, h, hn => by
    unfold DataW.weightsAll
    rcases List.mem_cons.1 h with rfl | h
    · exact List.mem_append_left _ hn
    · exact List.mem_append_right _ (mem_all h hn)
set_option maxRecDepth 1000000 in
theorem open_texts {H : Type} {enc : TypeId × Value → H} {w : World} {base : Nat} {spare : Nat → Bool} {held : Bool} {fuel : Nat} {v : Value} {x : DataW H × List MemPlace} (h : DataW.trod enc Tryz.prog w base spare held fuel 53 [v] = some x) :
    ∃ (A : Option Addr) (c : Nat) (l : List ByteArray), v = .slice A l.length c ∧ l.length ≤ c ∧ (l ≠ [] → ∃ m, l.length * 16 ≤ m ∧ m ∈ DataW.weights Tryz.prog 53 x.1) ∧ ∀ i o, l[i]? = some o → ∃ b f, A = some ⟨b, f, none⟩ ∧ w.cell? ⟨b, f + i, none⟩ = some (.string o) := by
  have hC : Tryz.prog.cellsOf 9 = 1 := by kernel_rfl
  have hB : Tryz.prog.bytesOf 9 = 16 := by kernel_rfl
  rcases DataW.trod_slice Tryz.underlying53 h with ⟨h1, h2⟩ | ⟨a, len, cap, elems, rest, n, rfl, h2, h3, h4, h5, h6, h7, h8, h9⟩
  · injection h1 with h1 _
    exact ⟨none, 0, [], h1, Nat.le_refl _, by simp, by simp⟩
  · injection h2 with h2 _
    rw [hC] at h8
    have hx : DataW.weights Tryz.prog 53 x.1 = ((elems.map (·.1)).length + (rest.map (·.1)).length) * Tryz.prog.bytesOf 9 :: (DataW.weightsAll Tryz.prog 9 (elems.map (·.1)) ++ DataW.weightsAll Tryz.prog 9 (rest.map (·.1))) := by
      rw [h3]
      simp only [DataW.weights, Tryz.underlying53]
    have ha : 0 < len → ∃ b f, a = ⟨b, f, none⟩ := by
      intro hl
      have he := h8 0 hl
      rw [List.getElem?_eq_getElem (by omega), Option.bind_eq_some_iff] at he
      obtain ⟨cs, hcs, ht⟩ := he
      obtain ⟨hb, hl, hc⟩ := World.cells?_some hcs
      obtain ⟨b, f, p⟩ := a
      cases p with
      | none => exact ⟨b, f, rfl⟩
      | some p =>
        have := hc 0 (by omega)
        rw [List.getElem?_eq_getElem (by omega)] at this
        simp only [Nat.zero_mul, Addr.add, if_pos] at this
        unfold World.cell? at this
        split at this <;> simp at this
    have hrow : ∀ i, i < len → ∃ o : ByteArray, ∃ b f, a = ⟨b, f, none⟩ ∧ w.cell? ⟨b, f + i, none⟩ = some (.string o) := by
      intro i hi
      have he := h8 i hi
      rw [List.getElem?_eq_getElem (by omega), Option.bind_eq_some_iff] at he
      obtain ⟨cs, hcs, ht⟩ := he
      obtain ⟨hb, hl, hc⟩ := World.cells?_some hcs
      obtain ⟨s0, rfl, hd, _⟩ := DataW.trod_string Tryz.underlying9 ht
      obtain ⟨b, f, rfl⟩ := ha (by omega)
      refine ⟨s0, b, f, rfl, ?_⟩
      have k0 := hc 0 (by simp)
      rw [add_plain, add_plain, Nat.mul_one, Nat.add_zero] at k0
      exact k0
    obtain ⟨l, hl, hp⟩ := choose_row len hrow
    refine ⟨some a, cap, l, by rw [h2, hl], by omega, ?_, fun i o hi => ?_⟩
    · intro _
      rw [hx, hB]
      refine ⟨_, ?_, List.mem_cons_self ..⟩
      rw [List.length_map, List.length_map]; exact Nat.mul_le_mul_right _ (by omega)
    · obtain ⟨b, f, e, k⟩ := hp i o hi
      exact ⟨b, f, by rw [e], k⟩

section
variable {H : Type} {enc : TypeId × Value → H} {P : Program} {w : World} {base : Nat} {spare : Nat → Bool} {held : Bool} {fuel : Nat} {cs : List Value} {x : DataW H × List MemPlace}
theorem trod_float_wf {t : TypeId} {k : FloatKind} (ht : P.underlying t = some (.float k)) (h : DataW.trod enc P w base spare held fuel t cs = some x) : ∃ (b : Nat) (D : DataW H), cs = [.float k b] ∧ x.1 = D ∧ (Lit.float k b).wf = true := by
  cases fuel with
  | zero => simp [DataW.trod] at h
  | succ m =>
    unfold DataW.trod at h
    rw [ht] at h
    split at h <;> simp_all
end
set_option maxRecDepth 1000000 in
theorem open48r {H : Type} {enc : TypeId × Value → H} {w : World} {base : Nat} {spare : Nat → Bool} {held : Bool} {fuel : Nat} {cs : List Value} {x : DataW H × List MemPlace} (h : DataW.trod enc Tryz.prog w base spare held fuel 55 cs = some x) :
    ∃ (s0 : Int) (s1 : Bool) (s2 : Int) (s3 : Nat) (D3 : DataW H) (s4 : ByteArray) (a5 : Option Addr) (n5 c5 : Nat) (m5 : Nat) (Y5 : DataW H × List MemPlace), cs = [.int .i64 s0, .bool s1, .int .i64 s2, .float .f32 s3, .string s4, .slice a5 n5 c5] ∧ x.1 = (.agg [.lit (.int .i64 s0), .lit (.bool s1), .lit (.int .i64 s2), D3, .lit (.string s4.data.toList), Y5.1]) ∧ (Lit.float .f32 s3).wf = true ∧ DataW.trod enc Tryz.prog w base spare held m5 53 [.slice a5 n5 c5] = some Y5 := by
  obtain ⟨xs, n, _, rfl, hlen, hxl, hf⟩ := DataW.trod_struct Tryz.underlying55 h
  have hC : Tryz.prog.cellsOf 55 = 6 := by kernel_rfl
  rw [hC] at hlen
  match xs, hxl, cs, hlen with
  | [y0, y1, y2, y3, y4, y5], _, [c0, c1, c2, c3, c4, c5], _ =>
    have g0 : DataW.trod enc Tryz.prog w base spare held n 3 [c0] = some y0 := by simpa [show Tryz.prog.cellsOf 3 = 1 from by kernel_rfl] using hf 0 _ rfl
    obtain ⟨s0, e0, r0, t0⟩ := DataW.trod_int Tryz.underlying3 g0
    simp only [List.cons.injEq, and_true] at e0
    subst e0
    subst r0
    have g1 : DataW.trod enc Tryz.prog w base spare held n 4 [c1] = some y1 := by simpa [show Tryz.prog.cellsOf 4 = 1 from by kernel_rfl] using hf 1 _ rfl
    obtain ⟨s1, e1, r1⟩ := DataW.trod_bool Tryz.underlying4 g1
    simp only [List.cons.injEq, and_true] at e1
    subst e1
    subst r1
    have g2 : DataW.trod enc Tryz.prog w base spare held n 2 [c2] = some y2 := by simpa [show Tryz.prog.cellsOf 2 = 1 from by kernel_rfl] using hf 2 _ rfl
    obtain ⟨s2, e2, r2, t2⟩ := DataW.trod_int Tryz.underlying2 g2
    simp only [List.cons.injEq, and_true] at e2
    subst e2
    subst r2
    have g3 : DataW.trod enc Tryz.prog w base spare held n 52 [c3] = some y3 := by simpa [show Tryz.prog.cellsOf 52 = 1 from by kernel_rfl] using hf 3 _ rfl
    obtain ⟨s3, D3, e3, r3, t3⟩ := trod_float_wf Tryz.underlying52 g3
    simp only [List.cons.injEq, and_true] at e3
    subst e3
    have g4 : DataW.trod enc Tryz.prog w base spare held n 9 [c4] = some y4 := by simpa [show Tryz.prog.cellsOf 9 = 1 from by kernel_rfl] using hf 4 _ rfl
    obtain ⟨s4, e4, r4, _⟩ := DataW.trod_string Tryz.underlying9 g4
    simp only [List.cons.injEq, and_true] at e4
    subst e4
    subst r4
    have g5 : DataW.trod enc Tryz.prog w base spare held n 53 [c5] = some y5 := by simpa [show Tryz.prog.cellsOf 53 = 1 from by kernel_rfl] using hf 5 _ rfl
    obtain ⟨a5, n5, c5, e5⟩ := trod_slice_form Tryz.underlying53 g5
    simp only [List.cons.injEq, and_true] at e5
    subst e5
    exact ⟨s0, s1, s2, s3, D3, s4, a5, n5, c5, n, y5, rfl, by simp [r3], t3, g5⟩

set_option maxRecDepth 1000000 in
theorem open50r {H : Type} {enc : TypeId × Value → H} {w : World} {base : Nat} {spare : Nat → Bool} {held : Bool} {fuel : Nat} {cs : List Value} {x : DataW H × List MemPlace} (h : DataW.trod enc Tryz.prog w base spare held fuel 57 cs = some x) :
    ∃ (s0 : ByteArray) (s1 : Int) (s2 : Bool) (s3 : Int) (s4 : Nat) (D4 : DataW H) (s5 : ByteArray) (a6 : Option Addr) (n6 c6 : Nat) (m6 : Nat) (Y6 : DataW H × List MemPlace), cs = [.string s0, .int .i64 s1, .bool s2, .int .i64 s3, .float .f32 s4, .string s5, .slice a6 n6 c6] ∧ x.1 = (.agg [.lit (.string s0.data.toList), (.agg [.lit (.int .i64 s1), .lit (.bool s2), .lit (.int .i64 s3), D4, .lit (.string s5.data.toList), Y6.1])]) ∧ (Lit.float .f32 s4).wf = true ∧ DataW.trod enc Tryz.prog w base spare held m6 53 [.slice a6 n6 c6] = some Y6 := by
  obtain ⟨xs, n, _, rfl, hlen, hxl, hf⟩ := DataW.trod_struct Tryz.underlying57 h
  have hC : Tryz.prog.cellsOf 57 = 7 := by kernel_rfl
  rw [hC] at hlen
  match xs, hxl, cs, hlen with
  | [y0, y1], _, [c0, c1, c2, c3, c4, c5, c6], _ =>
    have g0 : DataW.trod enc Tryz.prog w base spare held n 9 [c0] = some y0 := by simpa [show Tryz.prog.cellsOf 9 = 1 from by kernel_rfl] using hf 0 _ rfl
    obtain ⟨s0, e0, r0, _⟩ := DataW.trod_string Tryz.underlying9 g0
    simp only [List.cons.injEq, and_true] at e0
    subst e0
    subst r0
    have g1 : DataW.trod enc Tryz.prog w base spare held n 55 [c1, c2, c3, c4, c5, c6] = some y1 := by simpa [show Tryz.prog.cellsOf 55 = 6 from by kernel_rfl] using hf 1 _ rfl
    obtain ⟨s1, s2, s3, s4, D4, s5, a6, n6, c6, m6, Y6, e1, r1, t1, t6⟩ := open48r g1
    simp only [List.cons.injEq, and_true] at e1
    obtain ⟨rfl, rfl, rfl, rfl, rfl, rfl⟩ := e1
    exact ⟨s0, s1, s2, s3, s4, D4, s5, a6, n6, c6, m6, Y6, rfl, by simp [r1], t1, t6⟩
set_option maxRecDepth 1000000 in
theorem open_argsr {H : Type} {enc : TypeId × Value → H} {w : World} {base : Nat} {spare : Nat → Bool} {held : Bool} {fuel : Nat} {v : Value} {x : DataW H × List MemPlace} (h : DataW.trod enc Tryz.prog w base spare held fuel 27 [v] = some x) :
    ∃ (A : Option Addr) (c : Nat) (L : List Arg), v = .slice A L.length c ∧ (L ≠ [] → ∃ m, L.length * 88 ≤ m ∧ m ∈ DataW.weights Tryz.prog 27 x.1) ∧ ∀ (i : Nat) (a : Arg), L[i]? = some a → (∃ b o TA tc, A = some ⟨b, o, none⟩ ∧ Seven w b (o + i * 7) a.x (.slice TA a.l.length tc) ∧ TxtAt w TA a.l) ∧ (a.l ≠ [] → ∃ m, a.l.length * 16 ≤ m ∧ m ∈ DataW.weights Tryz.prog 27 x.1) ∧ a.x.r < 4294967296 := by
  have hC : Tryz.prog.cellsOf 57 = 7 := by kernel_rfl
  have hB : Tryz.prog.bytesOf 57 = 88 := by kernel_rfl
  rcases DataW.trod_slice Tryz.underlying27 h with ⟨h1, h2⟩ | ⟨a, len, cap, elems, rest, n, rfl, h2, h3, h4, h5, h6, h7, h8, h9⟩
  · injection h1 with h1 _
    exact ⟨none, 0, [], h1, by simp, by simp⟩
  · injection h2 with h2 _
    rw [hC] at h8
    have hx : DataW.weights Tryz.prog 27 x.1 = ((elems.map (·.1)).length + (rest.map (·.1)).length) * Tryz.prog.bytesOf 57 :: (DataW.weightsAll Tryz.prog 57 (elems.map (·.1)) ++ DataW.weightsAll Tryz.prog 57 (rest.map (·.1))) := by
      rw [h3]
      simp only [DataW.weights, Tryz.underlying27]
    have ha : 0 < len → ∃ b f, a = ⟨b, f, none⟩ := by
      intro hl
      have he := h8 0 hl
      rw [List.getElem?_eq_getElem (by omega), Option.bind_eq_some_iff] at he
      obtain ⟨cs, hcs, ht⟩ := he
      obtain ⟨hb, hl, hc⟩ := World.cells?_some hcs
      obtain ⟨b, f, p⟩ := a
      cases p with
      | none => exact ⟨b, f, rfl⟩
      | some p =>
        have := hc 0 (by omega)
        rw [List.getElem?_eq_getElem (by omega)] at this
        simp only [Nat.zero_mul, Addr.add, if_pos] at this
        unfold World.cell? at this
        split at this <;> simp at this
    have hrow : ∀ i, i < len → ∃ y : Arg, (∃ b o TA tc, a = ⟨b, o, none⟩ ∧ Seven w b (o + i * 7) y.x (.slice TA y.l.length tc) ∧ TxtAt w TA y.l) ∧ (y.l ≠ [] → ∃ m, y.l.length * 16 ≤ m ∧ m ∈ DataW.weights Tryz.prog 27 x.1) ∧ y.x.r < 4294967296 := by
      intro i hi
      have he := h8 i hi
      rw [List.getElem?_eq_getElem (by omega), Option.bind_eq_some_iff] at he
      obtain ⟨cs, hcs, ht⟩ := he
      obtain ⟨hb, hl, hc⟩ := World.cells?_some hcs
      obtain ⟨s0, s1, s2, s3, s4, D4, s5, a6, n6, c6, m6, Y6, rfl, hd, t4, t6⟩ := open50r ht
      obtain ⟨TA, tc, l, e6, _, hw6, hp6⟩ := open_texts t6
      injection e6 with e1 e2 e3
      subst e1
      subst e2
      subst e3
      obtain ⟨b, f, rfl⟩ := ha (by omega)
      refine ⟨⟨⟨s0, s1, s2, s3, s4, s5⟩, l⟩, ⟨b, f, a6, c6, rfl, ?_, hp6⟩, fun hl0 => ?_, by simpa [Lit.wf] using t4⟩
      · have k := fun j (hj : j < 7) => hc j (by simpa using hj)
        have k0 := k 0 (by omega)
        have k1 := k 1 (by omega)
        have k2 := k 2 (by omega)
        have k3 := k 3 (by omega)
        have k4 := k 4 (by omega)
        have k5 := k 5 (by omega)
        have k6 := k 6 (by omega)
        rw [add_plain, add_plain] at k0 k1 k2 k3 k4 k5 k6
        exact ⟨k0, k1, k2, k3, k4, k5, k6⟩
      · obtain ⟨m, hm1, hm2⟩ := hw6 hl0
        refine ⟨m, hm1, ?_⟩
        rw [hx]
        refine List.mem_cons_of_mem _ (List.mem_append_left _ (mem_all (d := (elems[i]'(by omega)).1) (List.mem_map_of_mem (List.getElem_mem _)) ?_))
        rw [hd]
        simp only [DataW.weights, Tryz.underlying57, DataW.weightsEach, Tryz.underlying55, List.map_cons, List.map_nil]
        simp [DataW.weightsEach, DataW.weights, hm2]
    obtain ⟨L, hl, hp⟩ := choose_row len hrow
    refine ⟨some a, cap, L, by rw [h2, hl], fun _ => ?_, fun i y hi => ?_⟩
    · rw [hx, hB]
      refine ⟨_, ?_, List.mem_cons_self ..⟩
      rw [List.length_map, List.length_map]; exact Nat.mul_le_mul_right _ (by omega)
    · obtain ⟨⟨b, o, TA, tc, e, h7, ht⟩, hw⟩ := hp i y hi
      exact ⟨⟨b, o, TA, tc, by rw [e], h7, ht⟩, hw⟩
end Go.Proofs.YtlhhpdomiioeiaaGreatDoor.Tu
