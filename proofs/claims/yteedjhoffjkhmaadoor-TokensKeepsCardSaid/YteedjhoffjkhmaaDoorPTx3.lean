import Derived.Test.YteedjhoffjkhmaaDoorPTx0
namespace Go.Proofs.YteedjhoffjkhmaaDoor.PT
open Go.RowKit Go.Proofs.YteedjhoffjkhmaaDoorW.PrintWords Go.Proofs.YteedjhoffjkhmaaDoorW.PrintLast Go.Proofs.YteedjhoffjkhmaaDoorW.PrintMore
attribute [local go_sem] max2_int min2_int max_two min_two max_three min_three max_four min_four
set_option linter.unusedVariables false
set_option linter.unusedSimpArgs false
def digB (c : UInt8) : Bool := decide (48 ≤ c.toNat) && decide (c.toNat ≤ 57)
def digN (s : ByteArray) : Nat := (s.data.toList.takeWhile digB).length
theorem takeWhile_stop {α : Type} (p : α → Bool) : ∀ (l : List α) (n : Nat), (∀ i, i < n → ∃ x, l[i]? = some x ∧ p x = true) → (∀ x, l[n]? = some x → p x = false) → (l.takeWhile p).length = n
 | [], n, h, _ => by
  cases n with
  | zero => rfl
  | succ n =>
   obtain ⟨x, hx, _⟩ := h 0 (by omega)
   simp at hx
 | y :: l, 0, _, hs => by
  have := hs y rfl
  simp [List.takeWhile, this]
 | y :: l, n + 1, h, hs => by
  obtain ⟨x, hx, hp⟩ := h 0 (by omega)
  simp only [List.getElem?_cons_zero, Option.some.injEq] at hx
  subst hx
  rw [List.takeWhile_cons, if_pos hp, List.length_cons, takeWhile_stop p l n (fun i hi => by simpa using h (i + 1) (by omega)) (fun x hx => hs x (by simpa using hx))]
theorem takeWhile_more {α : Type} (p : α → Bool) : ∀ (l : List α) (n : Nat), (∀ i, i < n → ∃ x, l[i]? = some x ∧ p x = true) → n ≤ (l.takeWhile p).length
 | _, 0, _ => Nat.zero_le _
 | [], n + 1, h => by
  obtain ⟨x, hx, _⟩ := h 0 (by omega)
  simp at hx
 | y :: l, n + 1, h => by
  obtain ⟨x, hx, hp⟩ := h 0 (by omega)
  simp only [List.getElem?_cons_zero, Option.some.injEq] at hx
  subst hx
  rw [List.takeWhile_cons, if_pos hp, List.length_cons]
  have := takeWhile_more p l n (fun i hi => by simpa using h (i + 1) (by omega))
  omega
theorem bytes_at (s : ByteArray) (i : Nat) (h : i < s.size) : s.data.toList[i]? = some (s[i]'h) := by
 rw [List.getElem?_eq_getElem (by simpa using h)]
 rfl
theorem bytes_none (s : ByteArray) (i : Nat) (h : ¬ i < s.size) : s.data.toList[i]? = none := by
 rw [List.getElem?_eq_none_iff]
 have : s.data.toList.length = s.size := Array.length_toList
 omega
theorem drewN_heap (w : World) (n : Nat) : (w.drewN n).heap = w.heap := by
 induction n generalizing w with
 | zero => rfl
 | succ n ih => rw [← World.drew_drewN]; exact (ih w)
theorem below_drewN' {B : Nat} {a w : World} (h : Below B a w) (n : Nat) : Below B a (w.drewN n) := by
 induction n generalizing w with
 | zero => exact h
 | succ n ih => rw [← World.drew_drewN]; exact (ih h).drew
theorem rune_at (s : ByteArray) (pos : Nat) (h : pos < s.size) : ((s[pos]'h).toNat < 128 ∧ Utf8.decode s pos = ((s[pos]'h).toNat, 1)) ∨ (128 ≤ (s[pos]'h).toNat ∧ 128 ≤ (Utf8.decode s pos).1 ∧ 1 ≤ (Utf8.decode s pos).2) := by
 by_cases ha : (s[pos]'h).toNat < 128
 ·
  exact .inl ⟨ha, decode_ascii s pos h ha⟩
 ·
  exact .inr ⟨by omega, decode_high s pos h (by omega)⟩
theorem len_toList (s : ByteArray) : s.data.toList.length = s.size := Array.length_toList
theorem at_lt {L : List UInt8} {n : Nat} {c : UInt8} (h : L[n]? = some c) : n < L.length := (List.getElem?_eq_some_iff.1 h).1
theorem byte_of {s : ByteArray} {n : Nat} {c : UInt8} (h : s.data.toList[n]? = some c) : ∃ hn : n < s.size, s[n]'hn = c := by
 have hn : n < s.size := by rw [← len_toList]; exact at_lt h
 refine ⟨hn, ?_⟩
 rw [bytes_at s n hn] at h
 exact Option.some.inj h
theorem bt_of {s : ByteArray} {n : Nat} {c : UInt8} (h : s.data.toList[n]? = some c) : bt s (n : Int) = (c.toNat : Int) := by
 obtain ⟨hn, hc⟩ := byte_of h
 unfold bt
 rw [dif_pos (by simpa using hn)]
 simp [hc]
def strings_IndexByte.f (a0 : ByteArray) (a1 : Int) : Option Int := some (Lib.indexByte a0.data.toList a1.toNat.toUInt8)
theorem strings_IndexByte.calls (a0 : ByteArray) (a1 : Int) (r : Int) (w : World) (h : strings_IndexByte.f a0 a1 = some r) :
  Calls Tryd.prog 43 #[.string a0, .int .u8 a1] w fun e w' => e = .returned (.int .i64 r) ∧ Drawn0 w w' := by
 obtain rfl := Option.some.inj h
 exact (Tryd.strings_IndexByte a0 a1 w).mono fun e w' ⟨he, hw⟩ => ⟨he, by rw [hw]; exact Drawn0.refl _⟩
def IsS53 (w0 W : World) (g : Nat) (f0 : ByteArray) (f1 : Int) (f2 : Int) (f3 : Int) : Prop := W.heap[g]? = some (.cells #[.string f0, .int .i64 f1, .int .i64 f2, .int .i64 f3] 53 (0, 0)) ∧ w0.heap.size ≤ g
theorem IsS53.grown {w0 W : World} {g : Nat} {f0 : ByteArray} {f1 : Int} {f2 : Int} {f3 : Int} {W1 : World} {row : Option Nat} (h : IsS53 w0 W g f0 f1 f2 f3) (hw : W.grownBy W1 row) (hne : some g ≠ row) : IsS53 w0 W1 g f0 f1 f2 f3 := by
 obtain ⟨hb, hg⟩ := h
 exact ⟨blk_grown hb hw hne, hg⟩
theorem IsS53.kept {w0 W : World} {g : Nat} {f0 : ByteArray} {f1 : Int} {f2 : Int} {f3 : Int} {W1 : World} {S : Nat → Prop} (h : IsS53 w0 W g f0 f1 f2 f3) (hk : Kept W W1 S) (hne : ¬ S g) : IsS53 w0 W1 g f0 f1 f2 f3 := by
 obtain ⟨hb, hg⟩ := h
 exact ⟨blk_kept hb hk hne, hg⟩
theorem IsS53.below {w0 W : World} {g : Nat} {f0 : ByteArray} {f1 : Int} {f2 : Int} {f3 : Int} {W1 : World} (h : IsS53 w0 W g f0 f1 f2 f3) (hw : Below W.heap.size W W1) : IsS53 w0 W1 g f0 f1 f2 f3 := h.grown (grown_of_below hw none) (by simp)
theorem IsS53.alloc {w0 W : World} {g : Nat} {f0 : ByteArray} {f1 : Int} {f2 : Int} {f3 : Int} (h : IsS53 w0 W g f0 f1 f2 f3) (o : Obj) : IsS53 w0 (W.alloc o) g f0 f1 f2 f3 := h.below (below_alloc (Below.refl _ _) o)
theorem IsS53.drewN {w0 W : World} {g : Nat} {f0 : ByteArray} {f1 : Int} {f2 : Int} {f3 : Int} (h : IsS53 w0 W g f0 f1 f2 f3) (m : Nat) : IsS53 w0 (W.drewN m) g f0 f1 f2 f3 := h
theorem IsS53.drew {w0 W : World} {g : Nat} {f0 : ByteArray} {f1 : Int} {f2 : Int} {f3 : Int} (h : IsS53 w0 W g f0 f1 f2 f3) : IsS53 w0 W.drew g f0 f1 f2 f3 := h
theorem IsS53.at_ {w0 W : World} {g : Nat} {f0 : ByteArray} {f1 : Int} {f2 : Int} {f3 : Int} {w' : World} {m : Nat} (hq : W.drewN m = w') (h : IsS53 w0 W g f0 f1 f2 f3) : IsS53 w0 w' g f0 f1 f2 f3 := by subst hq; exact IsS53.drewN h m
theorem IsS53.apart {w0 W : World} {g : Nat} {f0 : ByteArray} {f1 : Int} {f2 : Int} {f3 : Int} {α : Type} {d : Kd α} {e : Nat} {base : Nat} {ok : Nat → Prop} {v : Value} {xs : List α} (h : IsS53 w0 W g f0 f1 f2 f3) (ho : d.R e W base ok v xs) (ht : ∀ q, q ∈ e :: d.E → q ≠ 53) : d.R e W base (fun k => ok k ∧ k ≠ g) v xs := by
 obtain ⟨hb, hg⟩ := h
 exact Kd.R_types ho hb ht
theorem IsS53.own_ne {w0 W : World} {g : Nat} {f0 : ByteArray} {f1 : Int} {f2 : Int} {f3 : Int} {α : Type} {d : Kd α} {e : Nat} {base : Nat} {ok : Nat → Prop} {v : Value} {xs : List α} (h : IsS53 w0 W g f0 f1 f2 f3) (ho : d.R e W base ok v xs) (ht : e ≠ 53) : some g ≠ v.ownBlock := by
 obtain ⟨hb, hg⟩ := h
 exact Kd.R_ne ho hb ht
theorem IsS53.lt {w0 W : World} {g : Nat} {f0 : ByteArray} {f1 : Int} {f2 : Int} {f3 : Int} (h : IsS53 w0 W g f0 f1 f2 f3) : g < W.heap.size := by
 obtain ⟨hb, hg⟩ := h
 exact blk_lt hb
theorem IsS53.ge {w0 W : World} {g : Nat} {f0 : ByteArray} {f1 : Int} {f2 : Int} {f3 : Int} (h : IsS53 w0 W g f0 f1 f2 f3) : w0.heap.size ≤ g := by
 obtain ⟨hb, hg⟩ := h
 exact hg
theorem IsS53.far {w0 W : World} {g : Nat} {f0 : ByteArray} {f1 : Int} {f2 : Int} {f3 : Int} {p : Addr} (h : IsS53 w0 W g f0 f1 f2 f3) (hne : g ≠ p.block) (u : Value) : IsS53 w0 (W.setCell p u) g f0 f1 f2 f3 := by
 obtain ⟨hb, hg⟩ := h
 exact ⟨blk_far hb hne u, hg⟩
theorem cellS53_0 {W : World} {g : Nat} {f0 : ByteArray} {f1 : Int} {f2 : Int} {f3 : Int} (h : W.heap[g]? = some (.cells #[.string f0, .int .i64 f1, .int .i64 f2, .int .i64 f3] 53 (0, 0))) : W.cell? ⟨g, 0, none⟩ = some (.string f0) := (blk_cell h 0).trans rfl
theorem cellS53_1 {W : World} {g : Nat} {f0 : ByteArray} {f1 : Int} {f2 : Int} {f3 : Int} (h : W.heap[g]? = some (.cells #[.string f0, .int .i64 f1, .int .i64 f2, .int .i64 f3] 53 (0, 0))) : W.cell? ⟨g, 1, none⟩ = some (.int .i64 f1) := (blk_cell h 1).trans rfl
theorem IsS53.set_1 {w0 W : World} {g : Nat} {f0 : ByteArray} {f1 : Int} {f2 : Int} {f3 : Int} (h : IsS53 w0 W g f0 f1 f2 f3) (x : Int) : IsS53 w0 (W.setCell ⟨g, 1, none⟩ (.int .i64 x)) g f0 x f2 f3 := by
 obtain ⟨hb, hg⟩ := h
 exact ⟨by simpa using blk_set hb 1 (.int .i64 x), hg⟩
theorem cellS53_2 {W : World} {g : Nat} {f0 : ByteArray} {f1 : Int} {f2 : Int} {f3 : Int} (h : W.heap[g]? = some (.cells #[.string f0, .int .i64 f1, .int .i64 f2, .int .i64 f3] 53 (0, 0))) : W.cell? ⟨g, 2, none⟩ = some (.int .i64 f2) := (blk_cell h 2).trans rfl
theorem IsS53.set_2 {w0 W : World} {g : Nat} {f0 : ByteArray} {f1 : Int} {f2 : Int} {f3 : Int} (h : IsS53 w0 W g f0 f1 f2 f3) (x : Int) : IsS53 w0 (W.setCell ⟨g, 2, none⟩ (.int .i64 x)) g f0 f1 x f3 := by
 obtain ⟨hb, hg⟩ := h
 exact ⟨by simpa using blk_set hb 2 (.int .i64 x), hg⟩
theorem cellS53_3 {W : World} {g : Nat} {f0 : ByteArray} {f1 : Int} {f2 : Int} {f3 : Int} (h : W.heap[g]? = some (.cells #[.string f0, .int .i64 f1, .int .i64 f2, .int .i64 f3] 53 (0, 0))) : W.cell? ⟨g, 3, none⟩ = some (.int .i64 f3) := (blk_cell h 3).trans rfl
theorem IsS53.set_3 {w0 W : World} {g : Nat} {f0 : ByteArray} {f1 : Int} {f2 : Int} {f3 : Int} (h : IsS53 w0 W g f0 f1 f2 f3) (x : Int) : IsS53 w0 (W.setCell ⟨g, 3, none⟩ (.int .i64 x)) g f0 f1 f2 x := by
 obtain ⟨hb, hg⟩ := h
 exact ⟨by simpa using blk_set hb 3 (.int .i64 x), hg⟩
theorem IsS53.new (w0 W : World) (f0 : ByteArray) (f1 : Int) (f2 : Int) (f3 : Int) (hB : Below w0.heap.size w0 W) : IsS53 w0 (W.alloc (.cells #[.string f0, .int .i64 f1, .int .i64 f2, .int .i64 f3] 53)) W.heap.size f0 f1 f2 f3 := ⟨by simpa using heap_alloc_new W _, hB.size⟩
def isBlank (c : UInt8) : Bool := c.toNat == 32 || c.toNat == 9 || c.toNat == 13
def blk : Bool → List UInt8 → Nat → Nat → Nat → Nat × Nat × Nat
 | _, [], a, l, h => (a, l, h)
 | rem, c :: t, a, l, h =>
  if c.toNat = 10 then blk false t (a + 1) (l + 1) (a + 1)
  else if rem = true then blk true t (a + 1) l h
  else if isBlank c = true then blk false t (a + 1) l h
  else if c.toNat = 47 ∧ t.head? = some 47 then blk true t (a + 1) l h
  else (a, l, h)
def toNl (L : List UInt8) : Nat := (L.takeWhile (fun c => c.toNat != 10)).length
theorem blk_remark : ∀ (L : List UInt8) (a l h : Nat), blk true L a l h = blk false (L.drop (toNl L)) (a + toNl L) l h
 | [], a, l, h => by simp [blk, toNl]
 | c :: t, a, l, h => by
  by_cases hc : c.toNat = 10
  ·
   have : toNl (c :: t) = 0 := by simp [toNl, List.takeWhile, hc]
   rw [this, List.drop_zero, Nat.add_zero]
   simp [blk, hc]
  ·
   have : toNl (c :: t) = toNl t + 1 := by unfold toNl; rw [List.takeWhile_cons, if_pos (by simpa using hc)]; rfl
   rw [this, List.drop_succ_cons, show a + (toNl t + 1) = a + 1 + toNl t by omega, ← blk_remark t (a + 1) l h]
   simp [blk, hc]
theorem blk_nl {L t : List UInt8} {c : UInt8} {a l h : Nat} (hL : L = c :: t) (hc : c.toNat = 10) : blk false L a l h = blk false t (a + 1) (l + 1) (a + 1) := by
 rw [hL]; simp [blk, hc]
theorem blk_blank {L t : List UInt8} {c : UInt8} {a l h : Nat} (hL : L = c :: t) (hc : isBlank c = true) : blk false L a l h = blk false t (a + 1) l h := by
 have h10 : ¬ c.toNat = 10 := by
  intro e
  simp [isBlank, e] at hc
 rw [hL]; simp [blk, hc, h10]
theorem blk_stop {L t : List UInt8} {c : UInt8} {a l h : Nat} (hL : L = c :: t) (h10 : ¬ c.toNat = 10) (hc : isBlank c = false) (hs : Lib.hasPrefix L [47, 47] = false) : blk false L a l h = (a, l, h) := by
 rw [hL] at hs ⊢
 have : ¬ (c.toNat = 47 ∧ t.head? = some 47) := by
  rintro ⟨e1, e2⟩
  cases t with
  | nil => simp at e2
  | cons d t =>
   have : c = 47 := UInt8.toNat_inj.mp e1
   simp at e2
   subst this; subst e2
   simp [Lib.hasPrefix] at hs
 simp [blk, hc, h10, this]
theorem blk_slash {L : List UInt8} {a l h : Nat} (hs : Lib.hasPrefix L [47, 47] = true) : blk false L a l h = blk false (L.drop (toNl L)) (a + toNl L) l h ∧ 2 ≤ toNl L ∧ toNl L ≤ L.length := by
 obtain ⟨t, rfl⟩ : ∃ t, L = 47 :: 47 :: t := by
  cases L with
  | nil => simp [Lib.hasPrefix] at hs
  | cons c L =>
   cases L with
   | nil => simp [Lib.hasPrefix] at hs
   | cons d L =>
    simp [Lib.hasPrefix] at hs
    exact ⟨L, by rw [← hs.1, ← hs.2]⟩
 refine ⟨?_, ?_, (List.takeWhile_sublist _).length_le⟩
 ·
  have : toNl (47 :: 47 :: t) = toNl (47 :: t) + 1 := by simp [toNl, List.takeWhile]
  rw [this, List.drop_succ_cons, show a + (toNl (47 :: t) + 1) = a + 1 + toNl (47 :: t) by omega, ← blk_remark (47 :: t) (a + 1) l h]
  simp [blk, isBlank]
 ·
  simp [toNl, List.takeWhile]
theorem index_nl : ∀ (L : List UInt8), Lib.indexByte L 10 = if toNl L < L.length then ((toNl L : Nat) : Int) else -1
 | [] => by simp [Lib.indexByte, toNl]
 | c :: t => by
  have ih := index_nl t
  by_cases hc : c = 10
  ·
   subst hc
   simp [Lib.indexByte, toNl, List.takeWhile]
  ·
   have hn : (c.toNat != 10) = true := by
    simp
    intro e
    exact hc (UInt8.toNat_inj.mp e)
   have h1 : toNl (c :: t) = toNl t + 1 := by unfold toNl; rw [List.takeWhile_cons, if_pos hn]; rfl
   have hb : (c == 10) = false := by simpa using hc
   have hl : (c :: t).length = t.length + 1 := rfl
   rw [h1, hl, Lib.indexByte, hb, ih]
   by_cases hlt : toNl t < t.length
   ·
    rw [if_pos hlt, if_pos (show toNl t + 1 < t.length + 1 by omega)]
    have : (((toNl t : Nat) : Int) == -1) = false := beq_eq_false_iff_ne.mpr (by omega)
    rw [this]
    simp
   ·
    rw [if_neg hlt, if_neg (show ¬ toNl t + 1 < t.length + 1 by omega)]
    simp
theorem below_iterN {B : Nat} {a w : World} (h : Below B a w) (hB : B ≤ w.heap.size) (s : ByteArray) (p : Nat) : Below B a (w.iter s p) := h.alloc hB _
theorem isS53_iterAt {w0 W : World} {g : Nat} {f0 : ByteArray} {f1 f2 f3 : Int} (h : IsS53 w0 W g f0 f1 f2 f3) {k : Nat} (hk : g ≠ k) (s : ByteArray) (p : Nat) : IsS53 w0 (W.iterAt k s p) g f0 f1 f2 f3 :=
 ⟨(Lib.iterAt_other W k g s p hk).trans h.1, h.2⟩
theorem keep_iterAt {w W : World} {g : Nat} (h : KeepBut w W g none) {k : Nat} (hk : w.heap.size ≤ k) (s : ByteArray) (p : Nat) : KeepBut w (W.iterAt k s p) g none :=
 ⟨by rw [Lib.iterAt_size]; exact h.1, fun i hi hg hr => (Lib.iterAt_other W k i s p (by omega)).trans (h.2 i hi hg hr)⟩
theorem iter_setCell {W : World} {g k : Nat} {o : Obj} (h : W.heap[k]? = some o) (hk : k ≠ g) (j : Nat) (u : Value) : (W.setCell ⟨g, j, none⟩ u).heap[k]? = some o :=
 (Below.heap_setCell W ⟨g, j, none⟩ u k hk).trans h
theorem size_extract_end (s : ByteArray) (a : Nat) : (s.extract a s.size).size = s.size - a := by
 rw [← len_toList, Lib.extract_to_end, List.length_drop, len_toList]
theorem extract_at (s : ByteArray) (a p : Nat) (h : p < (s.extract a s.size).size) : ∃ h2 : a + p < s.size, (s.extract a s.size)[p]'h = s[a + p]'h2 := by
 have h2 : a + p < s.size := by rw [size_extract_end] at h; omega
 refine ⟨h2, ?_⟩
 have e1 := bytes_at (s.extract a s.size) p h
 rw [Lib.extract_to_end, List.getElem?_drop, bytes_at s (a + p) h2] at e1
 exact (Option.some.inj e1).symm
theorem drop_at' (s : ByteArray) (n : Nat) (h : n < s.size) : s.data.toList.drop n = (s[n]'h) :: s.data.toList.drop (n + 1) := by
 rw [List.drop_eq_getElem_cons (by rw [len_toList]; exact h)]
 rfl
theorem tail_data (s : ByteArray) (a p : Nat) : ((s.extract a s.size).extract p (s.size - a)).data.toList = s.data.toList.drop (a + p) := by
 rw [← size_extract_end s a, Lib.extract_to_end, Lib.extract_to_end, List.drop_drop]
set_option maxHeartbeats 16000000 in
set_option maxRecDepth 100000 in
theorem scanner_blanks (g : Nat) (s : ByteArray) (a l h : Nat) (w0 w : World) (hI : IsS53 w0 w g s a l h) (hB : Below w0.heap.size w0 w) (hs : s.size ≤ 140737488351232) (ha : a ≤ s.size) (hl : l + (s.size - a) ≤ 281474976710656) (hh : h ≤ s.size) :
  Calls Tryd.prog 28 #[.pointer (some ⟨g, 0, none⟩)] w fun e w' => e = .returned (.tuple #[]) ∧ IsS53 w0 w' g s (blk false (s.data.toList.drop a) a l h).1 (blk false (s.data.toList.drop a) a l h).2.1 (blk false (s.data.toList.drop a) a l h).2.2 ∧ Below w0.heap.size w0 w' ∧ KeepBut w w' g none := by
 generalize hR : blk false (s.data.toList.drop a) a l h = R
 have HR := Lib.hid hR
 have HI := Lib.hid hI
 have HB := Lib.hid hB
 have hlen := len_toList s
 have HLEN := Lib.hid hlen
 clear hR hI hB hlen
 go_enter Tryd.func28, Tryd.ntmps28
 go_wp2
 go_step3
 go_wp2
 go_step3
 go_wp2
 go_loopg [] (s.size - a) (fun gh wr => ∃ a1 l1 h1 : Nat, a1 ≤ s.size ∧ s.size - a1 = gh ∧ l1 + (s.size - a1) ≤ 281474976710656 ∧ h1 ≤ s.size ∧ Hid (blk false (s.data.toList.drop a1) a1 l1 h1 = R) ∧ Hid (IsS53 w0 wr g s a1 l1 h1) ∧ Hid (Below w0.heap.size w0 wr) ∧ Hid (KeepBut w wr g none))
 case atStart => exact ⟨a, l, h, ha, rfl, hl, hh, HR, HI, HB, Lib.hid (KeepBut.refl _ _ _)⟩
 case round =>
  clear HR HI HB ha hl hh
  obtain ⟨wo, rfl⟩ : ∃ wo : World, wo = wr := ⟨_, rfl⟩
  obtain ⟨gko, rfl⟩ : ∃ gko : Nat, gko = gk := ⟨_, rfl⟩
  obtain ⟨a1, l1, h1, ha, hgk, hl, hh, HR, HI, HB, HK⟩ := hrel
  have HGK := Lib.hid hgk
  clear hgk
  obtain ⟨HG0, _⟩ := HI.out
  have hc0 := cellS53_0 HG0
  have hc1 := cellS53_1 HG0
  have hc2 := cellS53_2 HG0
  have hc3 := cellS53_3 HG0
  clear HG0
  by_cases hlt : a1 < s.size
  ·
   have ht : decide ((a1 : Int) < (s.size : Int)) = true := by simp; omega
   go_wp2
   go_quiet (fail)
   go_wp2
   go_quiet (fail)
   go_wp2
   have hgl := IsS53.lt HI.out
   have hgg := IsS53.ge HI.out
   have hbs := HB.out.size
   have hks := HK.out.1
   have hrs := size_extract_end s a1
   have HRS := Lib.hid hrs
   clear hrs hc0 hc1 hc2 hc3
   obtain ⟨B, hBe⟩ : ∃ B : Nat, wo.heap.size = B := ⟨_, rfl⟩
   have HBE := Lib.hid hBe
   rw [hBe] at hgl hbs hks
   clear hBe
   go_loopg [] (s.size - a1) (fun gh2 wx => ∃ pos l2 h2 : Nat, a1 + pos ≤ s.size ∧ s.size - a1 - pos = gh2 ∧ l2 + (s.size - (a1 + pos)) ≤ 281474976710656 ∧ h2 ≤ s.size ∧ Hid (blk false (s.data.toList.drop (a1 + pos)) (a1 + pos) l2 h2 = R) ∧ Hid (wx.heap[wo.heap.size]? = some (.stringIter (s.extract a1 s.size) pos)) ∧ Hid (IsS53 w0 wx g s a1 l2 h2) ∧ Hid (Below w0.heap.size w0 wx) ∧ Hid (KeepBut w wx g none))
   case atStart =>
    exact ⟨0, l1, h1, ha, rfl, hl, hh, HR, World.iter_heap _ _ _, HI.out.alloc _, below_iterN (below_drewN' HB.out _) (by rw [drewN_heap, HBE.out]; exact hbs) _ _, keep_alloc HK.out _⟩
   case round =>
    clear HR HI HB HK hl hh
    obtain ⟨pos, l2, h2, hap, hgk2, hl, hh, HR, HIT, HI, HB, HK⟩ := hrel
    have HGK2 := Lib.hid hgk2
    clear hgk2
    by_cases hp : pos < (s.extract a1 s.size).size
    ·
     have hnx : ∀ ty, (Instr.next (.pointer (some ⟨wo.heap.size, 0, none⟩)) true ty).run Tryd.prog wr = _ := fun ty => Lib.run_next_any_at wr wo.heap.size (s.extract a1 s.size) pos ty HIT.out hp
     obtain ⟨hp2, hpe⟩ := extract_at s a1 pos hp
     have hdr := drop_at' s (a1 + pos) hp2
     have hru := rune_at (s.extract a1 s.size) pos hp
     rw [hpe] at hru
     have HDR := Lib.hid hdr
     clear hdr hpe
     generalize hcc : s[a1 + pos]'hp2 = c at hru HDR
     clear hcc
     generalize hdd : Utf8.decode (s.extract a1 s.size) pos = dd at hru hnx
     obtain ⟨ru, wd⟩ := dd
     clear hdd
     have HI3 : Hid (IsS53 w0 (wr.iterAt wo.heap.size (s.extract a1 s.size) (pos + wd)) g s a1 l2 h2) := isS53_iterAt HI.out (by rw [HBE.out]; omega) _ _
     have HB3 : Hid (Below w0.heap.size w0 (wr.iterAt wo.heap.size (s.extract a1 s.size) (pos + wd))) := Lib.below_iterAt HB.out (by rw [HBE.out]; exact hbs) _ _
     have HK3 : Hid (KeepBut w (wr.iterAt wo.heap.size (s.extract a1 s.size) (pos + wd)) g none) := keep_iterAt HK.out (by rw [HBE.out]; exact hks) _ _
     have HIT3 : Hid ((wr.iterAt wo.heap.size (s.extract a1 s.size) (pos + wd)).heap[wo.heap.size]? = some (.stringIter (s.extract a1 s.size) (pos + wd))) := Lib.iterAt_heap _ _ _ _ _ HIT.out
     obtain ⟨HG0, _⟩ := HI3.out
     have hc0 := cellS53_0 HG0
     have hc1 := cellS53_1 HG0
     have hc2 := cellS53_2 HG0
     have hc3 := cellS53_3 HG0
     have hf1 := blk_frozen HG0 1
     have hf2 := blk_frozen HG0 2
     have hf3 := blk_frozen HG0 3
     clear HG0
     have hhl := HGK2
     by_cases h10 : c.toNat = 10
     ·
      obtain ⟨hru10, hwd1⟩ : ru = 10 ∧ wd = 1 := by
       rcases hru with ⟨_, he⟩ | ⟨_, _⟩
       ·
        simp only [Prod.mk.injEq] at he; omega
       ·
        omega
      have q10 : ((ru : Int) == 10) = true := by rw [hru10]; rfl
      subst hwd1
      have HR3 : Hid (blk false (s.data.toList.drop (a1 + (pos + 1))) (a1 + (pos + 1)) (l2 + 1) (a1 + pos + 1) = R) := Lib.hid (by
       have := HR.out
       rw [blk_nl HDR.out h10] at this
       exact this)
      clear hru hru10 h10
      go_wp2
      go_roundg (s.size - a1 - (pos + 1))
      case measure => have := HGK2.out; have := hp2; omega
      case rel => exact ⟨pos + 1, l2 + 1, a1 + pos + 1, by omega, rfl, by omega, by omega, HR3, iter_setCell (iter_setCell HIT3.out (by rw [HBE.out]; omega) _ _) (by rw [HBE.out]; omega) _ _, (HI3.out.set_2 _).set_3 _, (HB3.out.setCell hgg _).setCell hgg _, (HK3.out.set_ _ _).set_ _ _⟩
     ·
      by_cases hbl : isBlank c = true
      ·
       obtain ⟨hrub, hwd1⟩ : ru = c.toNat ∧ wd = 1 := by
        simp only [isBlank, Bool.or_eq_true, beq_iff_eq] at hbl
        rcases hru with ⟨_, he⟩ | ⟨_, _⟩
        ·
         simp only [Prod.mk.injEq] at he; exact he
        ·
         omega
       subst hwd1
       have HR3 : Hid (blk false (s.data.toList.drop (a1 + (pos + 1))) (a1 + (pos + 1)) l2 h2 = R) := Lib.hid (by
        have := HR.out
        rw [blk_blank HDR.out hbl] at this
        exact this)
       have q10 : ((ru : Int) == 10) = false := by simp; omega
       have hw : ru = 32 ∨ (ru ≠ 32 ∧ ru = 9) ∨ (ru ≠ 32 ∧ ru ≠ 9 ∧ ru = 13) := by
        simp only [isBlank, Bool.or_eq_true, beq_iff_eq] at hbl
        omega
       clear hru hrub h10 hbl
       rcases hw with hw | ⟨hw1, hw⟩ | ⟨hw1, hw2, hw⟩
       ·
        have q1 : ((ru : Int) == 32) = true := by rw [hw]; rfl
        clear hw
        go_wp2
        go_roundg (s.size - a1 - (pos + 1))
        case measure => have := HGK2.out; have := hp2; omega
        case rel => exact ⟨pos + 1, l2, h2, by omega, rfl, by omega, hh, HR3, HIT3, HI3, HB3, HK3⟩
       ·
        have q1 : ((ru : Int) == 32) = false := by simp; omega
        have q2 : ((ru : Int) == 9) = true := by rw [hw]; rfl
        clear hw hw1
        go_wp2
        go_roundg (s.size - a1 - (pos + 1))
        case measure => have := HGK2.out; have := hp2; omega
        case rel => exact ⟨pos + 1, l2, h2, by omega, rfl, by omega, hh, HR3, HIT3, HI3, HB3, HK3⟩
       ·
        have q1 : ((ru : Int) == 32) = false := by simp; omega
        have q2 : ((ru : Int) == 9) = false := by simp; omega
        have q3 : ((ru : Int) == 13) = true := by rw [hw]; rfl
        clear hw hw1 hw2
        go_wp2
        go_roundg (s.size - a1 - (pos + 1))
        case measure => have := HGK2.out; have := hp2; omega
        case rel => exact ⟨pos + 1, l2, h2, by omega, rfl, by omega, hh, HR3, HIT3, HI3, HB3, HK3⟩
      ·
       have hbl2 : isBlank c = false := by simpa using hbl
       have hw : ru ≠ 10 ∧ ru ≠ 32 ∧ ru ≠ 9 ∧ ru ≠ 13 := by
        simp only [isBlank, Bool.or_eq_true, beq_iff_eq] at hbl
        rcases hru with ⟨_, he⟩ | ⟨_, h5, _⟩
        ·
         simp only [Prod.mk.injEq] at he; omega
        ·
         simp only at h5; omega
       have q10 : ((ru : Int) == 10) = false := by simp; omega
       have q1 : ((ru : Int) == 32) = false := by simp; omega
       have q2 : ((ru : Int) == 9) = false := by simp; omega
       have q3 : ((ru : Int) == 13) = false := by simp; omega
       clear hw hru hbl
       have cH : ∀ W, Calls Tryd.prog 42 #[.string ((s.extract a1 s.size).extract pos (s.size - a1)), .string ⟨#[47, 47]⟩] W fun e w' => e = .returned (.bool (Lib.hasPrefix (s.data.toList.drop (a1 + pos)) [47, 47])) ∧ w' = W := fun W => by
        rw [← tail_data]; exact Tryd.strings_HasPrefix _ _ W
       have cI : ∀ W, Calls Tryd.prog 43 #[.string ((s.extract a1 s.size).extract pos (s.size - a1)), .int .u8 10] W fun e w' => e = .returned (.int .i64 (Lib.indexByte (s.data.toList.drop (a1 + pos)) 10)) ∧ w' = W := fun W => by
        rw [← tail_data]; exact Tryd.strings_IndexByte _ _ W
       rw [index_nl] at cI
       have hlen2 : (s.data.toList.drop (a1 + pos)).length = s.size - (a1 + pos) := by rw [List.length_drop, HLEN.out]
       rw [hlen2] at cI
       generalize hhp : Lib.hasPrefix (s.data.toList.drop (a1 + pos)) [47, 47] = hb at cH
       have HHP := Lib.hid hhp
       have CH := Lib.hid cH
       have CI := Lib.hid cI
       have HL2 := Lib.hid hlen2
       clear hhp cH cI hlen2
       cases hb
       ·
        have hR2 : (a1 + pos, l2, h2) = R := by
         have := HR.out
         rw [blk_stop HDR.out h10 hbl2 HHP.out] at this
         exact this
        have HR2 := Lib.hid hR2
        clear hR2 h10 hbl2
        go_wp2_with (go_at_call 42; (with_reducible refine (CH.out _).mono ?_); rintro e w1 ⟨rfl, hw1⟩; rw [hw1]; clear hw1)
        rw [Exit.noGoto_ret]
        refine bodyPost_ret (results_none rfl _ _ _) rfl ?_
        exact ⟨rfl, by rw [← HR2.out, show (((a1 + pos, l2, h2).1 : Nat) : Int) = (a1 : Int) + (pos : Int) from rfl]; exact HI3.out.set_1 _, HB3.out.setCell hgg _, HK3.out.set_ _ _⟩
       ·
        have hsl := blk_slash (a := a1 + pos) (l := l2) (h := h2) HHP.out
        rw [List.drop_drop, HL2.out] at hsl
        generalize hn : toNl (s.data.toList.drop (a1 + pos)) = n at hsl CI
        clear hn
        obtain ⟨hsl1, hn2, hn3⟩ := hsl
        have HR3 : Hid (blk false (s.data.toList.drop (a1 + pos + n)) (a1 + pos + n) l2 h2 = R) := Lib.hid (by rw [← hsl1]; exact HR.out)
        clear hsl1 h10 hbl2
        by_cases hn : n < s.size - (a1 + pos)
        ·
         have CI2 : Hid (∀ W, Calls Tryd.prog 43 #[.string ((s.extract a1 s.size).extract pos (s.size - a1)), .int .u8 10] W fun e w' => e = .returned (.int .i64 (n : Int)) ∧ w' = W) := by rw [if_pos hn] at CI; exact CI
         go_wp2_with (first | (go_at_call 42; (with_reducible refine (CH.out _).mono ?_); rintro e w1 ⟨rfl, hw1⟩; rw [hw1]; clear hw1) | (go_at_call 43; (with_reducible refine (CI2.out _).mono ?_); rintro e w2 ⟨rfl, hw2⟩; rw [hw2]; clear hw2))
         go_roundg (s.size - (a1 + pos + n))
         case measure => have := HGK.out; omega
         case rel => exact ⟨a1 + pos + n, l2, h2, by omega, rfl, by omega, hh, HR3, Lib.hid (by rw [show ((a1 + pos + n : Nat) : Int) = (a1 : Int) + (pos : Int) + (n : Int) from by omega]; exact (HI3.out.set_1 _).set_1 _), (HB3.out.setCell hgg _).setCell hgg _, (HK3.out.set_ _ _).set_ _ _⟩
        ·
         have CI2 : Hid (∀ W, Calls Tryd.prog 43 #[.string ((s.extract a1 s.size).extract pos (s.size - a1)), .int .u8 10] W fun e w' => e = .returned (.int .i64 (-1)) ∧ w' = W) := by rw [if_neg hn] at CI; exact CI
         go_wp2_with (first | (go_at_call 42; (with_reducible refine (CH.out _).mono ?_); rintro e w1 ⟨rfl, hw1⟩; rw [hw1]; clear hw1) | (go_at_call 43; (with_reducible refine (CI2.out _).mono ?_); rintro e w2 ⟨rfl, hw2⟩; rw [hw2]; clear hw2))
         go_roundg (s.size - (a1 + pos + n))
         case measure => have := HGK.out; omega
         case rel => exact ⟨a1 + pos + n, l2, h2, by omega, rfl, by omega, hh, HR3, Lib.hid (by rw [show ((a1 + pos + n : Nat) : Int) = (a1 : Int) + (pos : Int) + (((s.size - a1 : Nat) : Int) - (pos : Int)) from by omega]; exact (HI3.out.set_1 _).set_1 _), (HB3.out.setCell hgg _).setCell hgg _, (HK3.out.set_ _ _).set_ _ _⟩
    ·
     have hnx : ∀ ty, (Instr.next (.pointer (some ⟨wo.heap.size, 0, none⟩)) true ty).run Tryd.prog wr = _ := fun ty => Lib.run_next_end_at wr wo.heap.size (s.extract a1 s.size) pos ty HIT.out hp
     have hpe : a1 + pos = s.size := by have := HRS.out; omega
     have HPE := Lib.hid hpe
     clear hpe
     obtain ⟨HG0, _⟩ := HI.out
     have hc0 := cellS53_0 HG0
     have hc1 := cellS53_1 HG0
     have hc2 := cellS53_2 HG0
     have hc3 := cellS53_3 HG0
     have hf1 := blk_frozen HG0 1
     have hf2 := blk_frozen HG0 2
     have hf3 := blk_frozen HG0 3
     clear HG0
     go_wp2
     go_roundg 0
     case measure => have := HGK.out; omega
     case rel => exact ⟨s.size, l2, h2, Nat.le_refl _, by omega, by omega, hh, Lib.hid (by have := HR.out; rw [HPE.out] at this; exact this), HI.out.set_1 _, HB.out.setCell hgg _, HK.out.set_ _ _⟩
  ·
   have ht : decide ((a1 : Int) < (s.size : Int)) = false := by simp; omega
   go_wp2
   go_quiet (fail)
   go_wp2
   rw [Exit.noGoto_normal]
   go_end0
   have hR := HR.out
   have hemp : s.data.toList.drop a1 = [] := List.drop_eq_nil_of_le (by rw [HLEN.out]; omega)
   rw [hemp] at hR
   exact ⟨rfl, by rw [← hR]; exact HI.out, below_drewN' HB.out _, HK.out⟩
def VT (w : World) : Prop := Lib.Utf8Tabs 0 1 w
theorem VT.on {w w' : World} (h : VT w) (hb : Below w.heap.size w w') : VT w' := Utf8Tabs_below h hb
def tokens_digit.f (a0 : Int) : Option (Bool) := if a0 ≥ 48 then (some (decide (a0 ≤ 57))) else (some false)
set_option maxHeartbeats 8000000 in
set_option maxRecDepth 100000 in
theorem tokens_digit.calls (a0 : Int) (r : Bool) (w : World) (h : tokens_digit.f a0 = some r) :
  Calls Tryd.prog 61 #[.int .i32 a0] w fun e w' => e = .returned (.bool r) ∧ Drawn0 w w' := by
 have H : (if a0 ≥ 48 then (some (decide (a0 ≤ 57))) else (some false)) = some r := h
 clear h
 by_cases c2 : a0 ≥ 48
 ·
  rw [if_pos c2] at H
  have c2b0 : decide (48 ≤ a0) = true := decide_eq_true c2
  clear c2
  obtain rfl := Option.some.inj H
  go_enter Tryd.func61, Tryd.ntmps61
  go_wp2
  go_ret
  exact ⟨by first | rfl | (simp; done) | (simp [*]; done), g1q⟩
 ·
  rw [if_neg c2] at H
  have c2b0 : decide (48 ≤ a0) = false := decide_eq_false c2
  clear c2
  obtain rfl := Option.some.inj H
  go_enter Tryd.func61, Tryd.ntmps61
  go_wp2
  go_ret
  exact ⟨by first | rfl | (simp; done) | (simp [*]; done), g1q⟩
def tokens_small.f (a0 : Int) : Option (Bool) := if a0 ≥ 97 then (some (decide (a0 ≤ 122))) else (some false)
set_option maxHeartbeats 8000000 in
set_option maxRecDepth 100000 in
theorem tokens_small.calls (a0 : Int) (r : Bool) (w : World) (h : tokens_small.f a0 = some r) :
  Calls Tryd.prog 68 #[.int .i32 a0] w fun e w' => e = .returned (.bool r) ∧ Drawn0 w w' := by
 have H : (if a0 ≥ 97 then (some (decide (a0 ≤ 122))) else (some false)) = some r := h
 clear h
 by_cases c2 : a0 ≥ 97
 ·
  rw [if_pos c2] at H
  have c2b0 : decide (97 ≤ a0) = true := decide_eq_true c2
  clear c2
  obtain rfl := Option.some.inj H
  go_enter Tryd.func68, Tryd.ntmps68
  go_wp2
  go_ret
  exact ⟨by first | rfl | (simp; done) | (simp [*]; done), g1q⟩
 ·
  rw [if_neg c2] at H
  have c2b0 : decide (97 ≤ a0) = false := decide_eq_false c2
  clear c2
  obtain rfl := Option.some.inj H
  go_enter Tryd.func68, Tryd.ntmps68
  go_wp2
  go_ret
  exact ⟨by first | rfl | (simp; done) | (simp [*]; done), g1q⟩
def tokens_class.f (a0 : Int) : Option (Int) := (tokens_small.f a0).bind fun t102 => (if t102 = true then (some 1) else ((tokens_digit.f a0).bind fun t103 => (if t103 = true then (some 2) else (if a0 = 34 then (some 3) else (some 0)))))
set_option maxHeartbeats 8000000 in
set_option maxRecDepth 100000 in
theorem tokens_class.calls (a0 : Int) (r : Int) (w : World) (h : tokens_class.f a0 = some r) :
  Calls Tryd.prog 45 #[.int .i32 a0] w fun e w' => e = .returned (.int .i64 r) ∧ Drawn0 w w' := by
 have H : ((tokens_small.f a0).bind fun t102 => (if t102 = true then (some 1) else ((tokens_digit.f a0).bind fun t103 => (if t103 = true then (some 2) else (if a0 = 34 then (some 3) else (some 0)))))) = some r := h
 clear h
 replace H := Option.bind_eq_some_iff.mp H
 obtain ⟨t102, A20, H⟩ := H
 replace H : (if t102 = true then (some 1) else ((tokens_digit.f a0).bind fun t103 => (if t103 = true then (some 2) else (if a0 = 34 then (some 3) else (some 0))))) = some r := H
 have A2 := Aside0.mk A20
 clear A20
 by_cases c3 : t102 = true
 ·
  subst c3
  have H1 : (some 1) = some r := by rw [if_pos rfl] at H; exact H
  clear H
  have H := H1
  clear H1
  obtain rfl := Option.some.inj H
  go_enter Tryd.func45, Tryd.ntmps45
  go_wp2_with (first | ((with_reducible refine gate_callee (f := 68) rfl ?_); refine goesL_ (some 5) rfl rfl Tryd.func68 (by kernel_rfl) rfl #[.int .i32 a0] rfl agq ?_; (with_reducible refine (tokens_small.calls a0 true _ A2.out).mono ?_); rintro e w' ⟨rfl, ⟨nd, rfl⟩⟩; refine ⟨_, rfl, ?_⟩))
  go_ret
  exact ⟨by first | rfl | (simp; done) | (simp [*]; done), g1q⟩
 ·
  replace c3 := Bool.eq_false_iff.mpr c3
  subst c3
  have H1 : ((tokens_digit.f a0).bind fun t103 => (if t103 = true then (some 2) else (if a0 = 34 then (some 3) else (some 0)))) = some r := by rw [if_neg (show ¬ (false = true) by decide)] at H; exact H
  clear H
  have H := H1
  clear H1
  replace H := Option.bind_eq_some_iff.mp H
  obtain ⟨t103, A40, H⟩ := H
  replace H : (if t103 = true then (some 2) else (if a0 = 34 then (some 3) else (some 0))) = some r := H
  have A4 := Aside0.mk A40
  clear A40
  by_cases c5 : t103 = true
  ·
   subst c5
   have H1 : (some 2) = some r := by rw [if_pos rfl] at H; exact H
   clear H
   have H := H1
   clear H1
   obtain rfl := Option.some.inj H
   go_enter Tryd.func45, Tryd.ntmps45
   go_wp2_with (first | ((with_reducible refine gate_callee (f := 68) rfl ?_); refine goesL_ (some 5) rfl rfl Tryd.func68 (by kernel_rfl) rfl #[.int .i32 a0] rfl agq ?_; (with_reducible refine (tokens_small.calls a0 false _ A2.out).mono ?_); rintro e w' ⟨rfl, ⟨nd, rfl⟩⟩; refine ⟨_, rfl, ?_⟩) | ((with_reducible refine gate_callee (f := 61) rfl ?_); refine goesL_ (some 8) rfl rfl Tryd.func61 (by kernel_rfl) rfl #[.int .i32 a0] rfl agq ?_; (with_reducible refine (tokens_digit.calls a0 true _ A4.out).mono ?_); rintro e w' ⟨rfl, ⟨nd, rfl⟩⟩; refine ⟨_, rfl, ?_⟩))
   go_ret
   exact ⟨by first | rfl | (simp; done) | (simp [*]; done), g1q⟩
  ·
   replace c5 := Bool.eq_false_iff.mpr c5
   subst c5
   have H1 : (if a0 = 34 then (some 3) else (some 0)) = some r := by rw [if_neg (show ¬ (false = true) by decide)] at H; exact H
   clear H
   have H := H1
   clear H1
   by_cases c6 : a0 = 34
   ·
    rw [if_pos c6] at H
    have c6b0 : (a0 == 34) = true := beq_iff_eq.mpr c6
    have c6b1 : (a0 != 34) = false := bne_eq_false_iff_eq.mpr c6
    clear c6
    obtain rfl := Option.some.inj H
    go_enter Tryd.func45, Tryd.ntmps45
    go_wp2_with (first | ((with_reducible refine gate_callee (f := 68) rfl ?_); refine goesL_ (some 5) rfl rfl Tryd.func68 (by kernel_rfl) rfl #[.int .i32 a0] rfl agq ?_; (with_reducible refine (tokens_small.calls a0 false _ A2.out).mono ?_); rintro e w' ⟨rfl, ⟨nd, rfl⟩⟩; refine ⟨_, rfl, ?_⟩) | ((with_reducible refine gate_callee (f := 61) rfl ?_); refine goesL_ (some 8) rfl rfl Tryd.func61 (by kernel_rfl) rfl #[.int .i32 a0] rfl agq ?_; (with_reducible refine (tokens_digit.calls a0 false _ A4.out).mono ?_); rintro e w' ⟨rfl, ⟨nd, rfl⟩⟩; refine ⟨_, rfl, ?_⟩))
    go_ret
    exact ⟨by first | rfl | (simp; done) | (simp [*]; done), g1q⟩
   ·
    rw [if_neg c6] at H
    have c6b0 : (a0 == 34) = false := beq_eq_false_iff_ne.mpr c6
    have c6b1 : (a0 != 34) = true := bne_iff_ne.mpr c6
    obtain rfl := Option.some.inj H
    go_enter Tryd.func45, Tryd.ntmps45
    go_wp2_with (first | ((with_reducible refine gate_callee (f := 68) rfl ?_); refine goesL_ (some 5) rfl rfl Tryd.func68 (by kernel_rfl) rfl #[.int .i32 a0] rfl agq ?_; (with_reducible refine (tokens_small.calls a0 false _ A2.out).mono ?_); rintro e w' ⟨rfl, ⟨nd, rfl⟩⟩; refine ⟨_, rfl, ?_⟩) | ((with_reducible refine gate_callee (f := 61) rfl ?_); refine goesL_ (some 8) rfl rfl Tryd.func61 (by kernel_rfl) rfl #[.int .i32 a0] rfl agq ?_; (with_reducible refine (tokens_digit.calls a0 false _ A4.out).mono ?_); rintro e w' ⟨rfl, ⟨nd, rfl⟩⟩; refine ⟨_, rfl, ?_⟩))
    go_ret
    exact ⟨by first | rfl | (simp; done) | (simp [*]; done), g1q⟩
theorem digit_true {a : Int} (h0 : 48 ≤ a) (h1 : a ≤ 57) : tokens_digit.f a = some true := by
 unfold tokens_digit.f
 rw [if_pos h0, decide_eq_true h1]
theorem digit_false {a : Int} (h : ¬ (48 ≤ a ∧ a ≤ 57)) : tokens_digit.f a = some false := by
 unfold tokens_digit.f
 split
 ·
  rw [decide_eq_false (by omega)]
 ·
  rfl
theorem small_true {a : Int} (h0 : 97 ≤ a) (h1 : a ≤ 122) : tokens_small.f a = some true := by
 unfold tokens_small.f
 rw [if_pos h0, decide_eq_true h1]
theorem small_false {a : Int} (h : ¬ (97 ≤ a ∧ a ≤ 122)) : tokens_small.f a = some false := by
 unfold tokens_small.f
 split
 ·
  rw [decide_eq_false (by omega)]
 ·
  rfl
def rowB (c : UInt8) : Bool := (decide (97 ≤ c.toNat) && decide (c.toNat ≤ 122)) || digB c || c.toNat == 95
def rowN (s : ByteArray) : Nat := (s.data.toList.takeWhile rowB).length
def tokens_row.f (a0 : ByteArray) : Option (Int × Bool) := some (if 33 ≤ rowN a0 then (32, true) else ((rowN a0 : Int), false))
set_option maxHeartbeats 4000000 in
set_option maxRecDepth 100000 in
theorem tokens_row.calls (a0 : ByteArray) (r1 : Int) (r2 : Bool) (w : World) (h : tokens_row.f a0 = some (r1, r2)) :
  Calls Tryd.prog 46 #[.string a0] w fun e w' => e = .returned (.tuple #[.int .i64 r1, .bool r2]) ∧ Below w.heap.size w w' := by
 have hr : (if 33 ≤ rowN a0 then ((32 : Int), true) else ((rowN a0 : Int), false)) = (r1, r2) := Option.some.inj h
 clear h
 have HR := Lib.hid hr
 clear hr
 go_enter Tryd.func46, Tryd.ntmps46
 go_wp2
 go_loopw [] (fun w' => ∃ pos : Nat, w'.heap[w.heap.size]? = some (.stringIter a0 pos) ∧ Below w.heap.size w w' ∧ pos ≤ a0.size ∧ pos ≤ 32 ∧ Hid (∀ i, i < pos → ∃ x, a0.data.toList[i]? = some x ∧ rowB x = true)) (fun w' => a0.size - w'.iterPos w.heap.size)
 case atStart => exact ⟨0, World.iter_heap w a0 0, (Below.refl _ _).alloc (Nat.le_refl _) _, Nat.zero_le _, by omega, Lib.hid (fun i hi => by omega)⟩
 case round =>
  obtain ⟨pos, hit0, hb, hle, h32, hall⟩ := hrel
  have hit := Lib.hid hit0
  clear hit0
  by_cases hp : pos < a0.size
  ·
   have hnx : ∀ ty, (Instr.next (.pointer (some ⟨w.heap.size, 0, none⟩)) true ty).run Tryd.prog wr = _ := fun ty => Lib.run_next_any_at wr w.heap.size a0 pos ty hit.out hp
   by_cases hd : rowB (a0[pos]'hp) = true
   ·
    have hall2 : Hid (∀ i, i < pos + 1 → ∃ x, a0.data.toList[i]? = some x ∧ rowB x = true) := Lib.hid (fun i hi => by
     by_cases hi2 : i < pos
     ·
      exact hall.out i hi2
     ·
      obtain rfl : i = pos := by omega
      exact ⟨_, bytes_at a0 i hp, hd⟩)
    have hru : (Utf8.decode a0 pos).2 = 1 ∧ (Utf8.decode a0 pos).1 = (a0[pos]'hp).toNat := by
     simp only [rowB, digB, Bool.or_eq_true, Bool.and_eq_true, decide_eq_true_eq, beq_iff_eq] at hd
     rcases rune_at a0 pos hp with ⟨h1, h2⟩ | ⟨h1, _⟩
     ·
      rw [h2]; exact ⟨rfl, rfl⟩
     ·
      omega
    obtain ⟨hw1, hw2⟩ := hru
    have HW := Lib.hid hw1
    have hways : (97 ≤ (Utf8.decode a0 pos).1 ∧ (Utf8.decode a0 pos).1 ≤ 122) ∨ (¬ (97 ≤ (Utf8.decode a0 pos).1 ∧ (Utf8.decode a0 pos).1 ≤ 122) ∧ 48 ≤ (Utf8.decode a0 pos).1 ∧ (Utf8.decode a0 pos).1 ≤ 57) ∨ (¬ (97 ≤ (Utf8.decode a0 pos).1 ∧ (Utf8.decode a0 pos).1 ≤ 122) ∧ ¬ (48 ≤ (Utf8.decode a0 pos).1 ∧ (Utf8.decode a0 pos).1 ≤ 57) ∧ (Utf8.decode a0 pos).1 = 95) := by
     simp only [rowB, digB, Bool.or_eq_true, Bool.and_eq_true, decide_eq_true_eq, beq_iff_eq] at hd
     rw [hw2]
     omega
    clear hw1 hw2 hd
    have hEnd : pos = 32 → Hid (r1 = (pos : Int) ∧ r2 = true) := fun e => by
     have : 33 ≤ rowN a0 := by
      have := takeWhile_more rowB _ (pos + 1) hall2.out
      unfold rowN
      omega
     have hh := HR.out
     rw [if_pos this] at hh
     simp only [Prod.mk.injEq] at hh
     exact Lib.hid ⟨by rw [← hh.1, e]; rfl, hh.2.symm⟩
    clear hall
    generalize hru : (Utf8.decode a0 pos).1 = ru at *
    generalize hwd : (Utf8.decode a0 pos).2 = wd at *
    clear hru hwd
    have hpos : (pos == 32) = decide (pos = 32) := by by_cases h : pos = 32 <;> simp [h]
    have hpi : ((pos : Int) == 32) = decide (pos = 32) := by by_cases h : pos = 32 <;> simp [h]; omega
    clear hpos
    have HPI := Lib.hid hpi
    clear hpi
    by_cases he : pos = 32
    ·
     have HE := hEnd he
     have hq : ((pos : Int) == 32) = true := by rw [HPI.out]; simpa using he
     clear hEnd he
     rcases hways with hw | ⟨hn, hw⟩ | ⟨hn, hn2, hw⟩
     ·
      have hs := Lib.hid (small_true (a := (ru : Int)) (by omega) (by omega))
      go_wp2_with (go_at_call 68; (with_reducible refine (tokens_small.calls _ true _ hs.out).mono ?_); rintro e w' ⟨rfl, ⟨nd, rfl⟩⟩)
      go_ret2
      exact ⟨by rw [HE.out.1, HE.out.2]; rfl, below_drewN' (Lib.below_iterAt hb (Nat.le_refl _) _ _) _⟩
     ·
      have hs := Lib.hid (small_false (a := (ru : Int)) (by omega))
      have hd := Lib.hid (digit_true (a := (ru : Int)) (by omega) (by omega))
      go_wp2_with (first | (go_at_call 68; (with_reducible refine (tokens_small.calls _ false _ hs.out).mono ?_); rintro e w' ⟨rfl, ⟨nd, rfl⟩⟩) | (go_at_call 61; (with_reducible refine (tokens_digit.calls _ true _ hd.out).mono ?_); rintro e w' ⟨rfl, ⟨nd2, rfl⟩⟩))
      go_ret2
      exact ⟨by rw [HE.out.1, HE.out.2]; rfl, by repeat (first | exact Lib.below_iterAt hb (Nat.le_refl _) _ _ | apply below_drewN')⟩
     ·
      have hs := Lib.hid (small_false (a := (ru : Int)) (by omega))
      have hd := Lib.hid (digit_false (a := (ru : Int)) (by omega))
      have hu : ((ru : Int) != 95) = false := by simp; omega
      clear hw hn hn2
      go_wp2_with (first | (go_at_call 68; (with_reducible refine (tokens_small.calls _ false _ hs.out).mono ?_); rintro e w' ⟨rfl, ⟨nd, rfl⟩⟩) | (go_at_call 61; (with_reducible refine (tokens_digit.calls _ false _ hd.out).mono ?_); rintro e w' ⟨rfl, ⟨nd2, rfl⟩⟩))
      go_ret2
      exact ⟨by rw [HE.out.1, HE.out.2]; rfl, by repeat (first | exact Lib.below_iterAt hb (Nat.le_refl _) _ _ | apply below_drewN')⟩
    ·
     have hq : ((pos : Int) == 32) = false := by rw [HPI.out]; simpa using he
     clear hEnd
     rcases hways with hw | ⟨hn, hw⟩ | ⟨hn, hn2, hw⟩
     ·
      have hs := Lib.hid (small_true (a := (ru : Int)) (by omega) (by omega))
      go_wp2_with (go_at_call 68; (with_reducible refine (tokens_small.calls _ true _ hs.out).mono ?_); rintro e w' ⟨rfl, ⟨nd, rfl⟩⟩)
      go_roundw
      case rel => exact ⟨pos + 1, by repeat (first | rw [drewN_heap] | (rw [← HW.out]; exact Lib.iterAt_heap _ _ _ _ _ hit.out)), by repeat (first | exact Lib.below_iterAt hb (Nat.le_refl _) _ _ | apply below_drewN'), by omega, by omega, hall2⟩
      case measure => rw [iterPos_of hit.out, iterPos_of (p := pos + 1) (s := a0) (by repeat (first | rw [drewN_heap] | (rw [← HW.out]; exact Lib.iterAt_heap _ _ _ _ _ hit.out)))]; omega
     ·
      have hs := Lib.hid (small_false (a := (ru : Int)) (by omega))
      have hd := Lib.hid (digit_true (a := (ru : Int)) (by omega) (by omega))
      go_wp2_with (first | (go_at_call 68; (with_reducible refine (tokens_small.calls _ false _ hs.out).mono ?_); rintro e w' ⟨rfl, ⟨nd, rfl⟩⟩) | (go_at_call 61; (with_reducible refine (tokens_digit.calls _ true _ hd.out).mono ?_); rintro e w' ⟨rfl, ⟨nd2, rfl⟩⟩))
      go_roundw
      case rel => exact ⟨pos + 1, by repeat (first | rw [drewN_heap] | (rw [← HW.out]; exact Lib.iterAt_heap _ _ _ _ _ hit.out)), by repeat (first | exact Lib.below_iterAt hb (Nat.le_refl _) _ _ | apply below_drewN'), by omega, by omega, hall2⟩
      case measure => rw [iterPos_of hit.out, iterPos_of (p := pos + 1) (s := a0) (by repeat (first | rw [drewN_heap] | (rw [← HW.out]; exact Lib.iterAt_heap _ _ _ _ _ hit.out)))]; omega
     ·
      have hs := Lib.hid (small_false (a := (ru : Int)) (by omega))
      have hd := Lib.hid (digit_false (a := (ru : Int)) (by omega))
      have hu : ((ru : Int) != 95) = false := by simp; omega
      clear hw hn hn2
      go_wp2_with (first | (go_at_call 68; (with_reducible refine (tokens_small.calls _ false _ hs.out).mono ?_); rintro e w' ⟨rfl, ⟨nd, rfl⟩⟩) | (go_at_call 61; (with_reducible refine (tokens_digit.calls _ false _ hd.out).mono ?_); rintro e w' ⟨rfl, ⟨nd2, rfl⟩⟩))
      go_roundw
      case rel => exact ⟨pos + 1, by repeat (first | rw [drewN_heap] | (rw [← HW.out]; exact Lib.iterAt_heap _ _ _ _ _ hit.out)), by repeat (first | exact Lib.below_iterAt hb (Nat.le_refl _) _ _ | apply below_drewN'), by omega, by omega, hall2⟩
      case measure => rw [iterPos_of hit.out, iterPos_of (p := pos + 1) (s := a0) (by repeat (first | rw [drewN_heap] | (rw [← HW.out]; exact Lib.iterAt_heap _ _ _ _ _ hit.out)))]; omega
   ·
    have hd2 : rowB (a0[pos]'hp) = false := by simpa using hd
    have hn : rowN a0 = pos := takeWhile_stop rowB _ pos hall.out (fun x hx => by rw [bytes_at a0 pos hp] at hx; cases hx; exact hd2)
    have HN : Hid (r1 = (pos : Int) ∧ r2 = false) := Lib.hid (by
     have hh := HR.out
     rw [hn, if_neg (by omega)] at hh
     simp only [Prod.mk.injEq] at hh
     exact ⟨hh.1.symm, hh.2.symm⟩)
    have hru : ¬ (97 ≤ ((Utf8.decode a0 pos).1 : Int) ∧ ((Utf8.decode a0 pos).1 : Int) ≤ 122) ∧ ¬ (48 ≤ ((Utf8.decode a0 pos).1 : Int) ∧ ((Utf8.decode a0 pos).1 : Int) ≤ 57) ∧ ((Utf8.decode a0 pos).1 : Int) ≠ 95 := by
     simp only [rowB, digB, Bool.or_eq_true, Bool.and_eq_true, decide_eq_true_eq, beq_iff_eq] at hd
     rcases rune_at a0 pos hp with ⟨h1, h2⟩ | ⟨_, h1, _⟩
     ·
      rw [h2]
      show ¬ (97 ≤ (((a0[pos]'hp).toNat : Nat) : Int) ∧ (((a0[pos]'hp).toNat : Nat) : Int) ≤ 122) ∧ ¬ (48 ≤ (((a0[pos]'hp).toNat : Nat) : Int) ∧ (((a0[pos]'hp).toNat : Nat) : Int) ≤ 57) ∧ (((a0[pos]'hp).toNat : Nat) : Int) ≠ 95
      omega
     ·
      omega
    have hs := Lib.hid (small_false hru.1)
    have hdf := Lib.hid (digit_false hru.2.1)
    have hu : (((Utf8.decode a0 pos).1 : Int) != 95) = true := by simpa using hru.2.2
    clear hn hd hd2 hru
    go_wp2_with (first | (go_at_call 68; (with_reducible refine (tokens_small.calls _ false _ hs.out).mono ?_); rintro e w' ⟨rfl, ⟨nd, rfl⟩⟩) | (go_at_call 61; (with_reducible refine (tokens_digit.calls _ false _ hdf.out).mono ?_); rintro e w' ⟨rfl, ⟨nd2, rfl⟩⟩))
    go_ret2
    exact ⟨by rw [HN.out.1, HN.out.2]; rfl, by repeat (first | exact Lib.below_iterAt hb (Nat.le_refl _) _ _ | apply below_drewN')⟩
  ·
   have hnx : ∀ ty, (Instr.next (.pointer (some ⟨w.heap.size, 0, none⟩)) true ty).run Tryd.prog wr = _ := fun ty => Lib.run_next_end_at wr w.heap.size a0 pos ty hit.out hp
   have hn : rowN a0 = a0.size := takeWhile_stop rowB _ _ (fun i hi => hall.out i (by omega)) (fun x hx => by rw [bytes_none a0 a0.size (by omega)] at hx; cases hx)
   have HN : Hid (r1 = (a0.size : Int) ∧ r2 = false) := Lib.hid (by
     have hh := HR.out
     rw [hn, if_neg (by omega)] at hh
     simp only [Prod.mk.injEq] at hh
     exact ⟨hh.1.symm, hh.2.symm⟩)
   clear hn
   go_wp2
   go_ret2
   exact ⟨by rw [HN.out.1, HN.out.2]; rfl, hb⟩
end Go.Proofs.YteedjhoffjkhmaaDoor.PT
