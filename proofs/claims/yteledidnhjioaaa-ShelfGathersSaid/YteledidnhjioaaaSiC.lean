import Derived.Test.YteledidnhjioaaaSiB
namespace Go.Proofs.Yteledidnhjioaaa.Sh
open Go.RowKit Go.Lib Go.Proofs Go.Shelf
set_option linter.unusedVariables false
set_option linter.unusedSimpArgs false
/-- an array of three, one cell each -/
def Arr (W : World) (B : Nat) (t : TypeId) (c : Nat → Value) : Prop := W.heap[B]? = some (.cells #[c 0, c 1, c 2] t (0, 0))
theorem lt3 {k : Nat} (h : k < 3) : k = 0 ∨ k = 1 ∨ k = 2 := by omega
theorem Arr.lt {W : World} {B : Nat} {t : TypeId} {c : Nat → Value} (h : Arr W B t c) : B < W.heap.size := (Array.getElem?_eq_some_iff.1 h).1
theorem Arr.cell {W : World} {B : Nat} {t : TypeId} {c : Nat → Value} (h : Arr W B t c) {k : Nat} (hk : k < 3) : W.cell? ⟨B, k, none⟩ = some (c k) ∧ W.frozen? ⟨B, k, none⟩ = false := by
  have h' : W.heap[B]? = some (.cells #[c 0, c 1, c 2] t (0, 0)) := h
  rcases lt3 hk with rfl | rfl | rfl <;> simp [World.cell?, World.frozen?, h']
theorem Arr.congr {W : World} {B : Nat} {t : TypeId} {c d : Nat → Value} (h : Arr W B t c) (e : ∀ k, k < 3 → d k = c k) : Arr W B t d := by
  unfold Arr
  rw [e 0 (by omega), e 1 (by omega), e 2 (by omega)]
  exact h
theorem Arr.set {W : World} {B : Nat} {t : TypeId} {c : Nat → Value} (h : Arr W B t c) {k : Nat} (hk : k < 3) (v : Value) : Arr (W.setCell ⟨B, k, none⟩ v) B t (fun j => if j = k then v else c j) := by
  have h' : W.heap[B]? = some (.cells #[c 0, c 1, c 2] t (0, 0)) := h
  rcases lt3 hk with rfl | rfl | rfl <;> simp [Arr, World.setCell, Array.getElem?_modify, h']
theorem Arr.keep {X : Nat → Prop} {W W' : World} {B : Nat} {t : TypeId} {c : Nat → Value} (h : Arr W B t c) (k : Chg X W W') (hx : ¬ X B) : Arr W' B t c := (k.block B h.lt hx).trans h
theorem Arr.later {W W' : World} {B : Nat} {t : TypeId} {c : Nat → Value} (h : Arr W B t c) (k : Later W W') : Arr W' B t c := (k.block B h.lt).trans h
/-- what the play may change: the two arrays, the three Shelves -/
def plX (S L : Nat) (f : Nat → Nat) : Nat → Prop := fun b => b = S ∨ b = L ∨ ∃ k, k < 3 ∧ b = f k
structure Play (W : World) (S L : Nat) (f : Nat → Nat) (T : Nat → Tr (Int × Int)) (av : Nat → Option Addr) (cp : Nat → Nat) : Prop where
  s : Arr W S 74 fun k => .pointer (some ⟨f k, 0, none⟩)
  l : Arr W L 75 fun k => .slice (av k) (T k).list.length (cp k)
  shf : ∀ k, k < 3 → Shf (plX S L f) W (f k) 45 (T k)
  rise : ∀ k, k < 3 → Rises cmpR (T k).list
  sl : ∀ k, k < 3 → SliceAt W (av k) (cp k) (T k).list
  off : ∀ k, k < 3 → ∀ b o, av k = some ⟨b, o, none⟩ → b < W.heap.size ∧ ¬ plX S L f b
  dist : ∀ i j, i < 3 → j < 3 → f i = f j → i = j
  away : ∀ k, k < 3 → f k ≠ S ∧ f k ≠ L
  ne : S ≠ L
theorem Play.below {W : World} {S L : Nat} {f : Nat → Nat} {T : Nat → Tr (Int × Int)} {av : Nat → Option Addr} {cp : Nat → Nat} (h : Play W S L f T av cp) : ∀ b, plX S L f b → b < W.heap.size := by
  intro b hb
  rcases hb with rfl | rfl | ⟨k, hk, rfl⟩
  · exact h.s.lt
  · exact h.l.lt
  · exact (h.shf k hk).lt
theorem Play.later {W W' : World} {S L : Nat} {f : Nat → Nat} {T : Nat → Tr (Int × Int)} {av : Nat → Option Addr} {cp : Nat → Nat} (h : Play W S L f T av cp) (k : Later W W') : Play W' S L f T av cp :=
  ⟨h.s.later k, h.l.later k, fun i hi => (h.shf i hi).later k, h.rise, fun i hi => (h.sl i hi).later k, fun i hi b o e => ⟨Nat.lt_of_lt_of_le (h.off i hi b o e).1 k.size, (h.off i hi b o e).2⟩, h.dist, h.away, h.ne⟩
/-- one Shelf has changed, by a call on it; its list is laid down anew: in either order -/
def upd {α : Type} (f : Nat → α) (m : Nat) (x : α) : Nat → α := fun j => if j = m then x else f j
theorem upd_self {α : Type} (f : Nat → α) (m : Nat) (x : α) : upd f m x m = x := by simp [upd]
theorem upd_other {α : Type} (f : Nat → α) {m j : Nat} (x : α) (h : j ≠ m) : upd f m x j = f j := by simp [upd, h]
/-- the list first: a new slice at place m; then the Shelf's own call -/
theorem Play.put {W W1 W2 : World} {S L m cp' : Nat} {f : Nat → Nat} {T : Nat → Tr (Int × Int)} {av : Nat → Option Addr} {cp : Nat → Nat} {A' : Option Addr} {T' : Tr (Int × Int)} (h : Play W S L f T av cp) (hm : m < 3)
    (hl : SliceAt W A' cp' T'.list) (ho : ∀ b o, A' = some ⟨b, o, none⟩ → b < W.heap.size ∧ ¬ plX S L f b) (hr : Rises cmpR T'.list) (e1 : Later (W.setCell ⟨L, m, none⟩ (.slice A' T'.list.length cp')) W1)
    (hs : Shf (plX S L f) W2 (f m) 45 T') (k : Chg (only (f m)) W1 W2) : Play W2 S L f (upd T m T') (upd av m A') (upd cp m cp') := by
  have k0 : Chg (plX S L f) W (W.setCell ⟨L, m, none⟩ (.slice A' T'.list.length cp')) := Chg.set _ _ (.inr (.inl rfl))
  have kL : Chg (only L) W (W.setCell ⟨L, m, none⟩ (.slice A' T'.list.length cp')) := Chg.set _ _ rfl
  have hX : ∀ b, only (f m) b → plX S L f b := fun b hb => .inr (.inr ⟨m, hm, hb⟩)
  have kk : Chg (plX S L f) W W2 := (k0.trans e1.chg).trans (k.mono hX)
  have hL : ¬ only (f m) L := fun e => (h.away m hm).2 e.symm
  have hS : ¬ only (f m) S := fun e => (h.away m hm).1 e.symm
  refine ⟨?_, ?_, fun i hi => ?_, fun i hi => ?_, fun i hi => ?_, fun i hi b o e => ?_, h.dist, h.away, h.ne⟩
  · exact ((h.s.keep kL (fun e => h.ne e)).later e1).keep k hS
  · refine (((h.l.set hm (.slice A' T'.list.length cp')).later e1).keep k hL).congr fun j hj => ?_
    by_cases e : j = m
    · subst e; simp [upd]
    · simp [upd, e]
  · by_cases e : i = m
    · subst e; rw [upd_self]; exact hs
    · rw [upd_other _ _ e]
      have a1 := (h.shf i hi).keep kL (fun b hb => .inr (.inl hb)) (fun e' => (h.away i hi).2 e')
      exact (a1.later e1).keep k hX (fun e' => e (h.dist i m hi hm e'))
  · by_cases e : i = m
    · subst e; rw [upd_self]; exact hr
    · rw [upd_other _ _ e]; exact h.rise i hi
  · by_cases e : i = m
    · subst e; rw [upd_self, upd_self, upd_self]
      exact hl.chg kk (fun b o e _ => (ho b o e).2)
    · rw [upd_other _ _ e, upd_other _ _ e, upd_other _ _ e]
      exact (h.sl i hi).chg kk (fun b o e _ => (h.off i hi b o e).2)
  · by_cases e' : i = m
    · subst e'; rw [upd_self] at e
      exact ⟨Nat.lt_of_lt_of_le (ho b o e).1 kk.size, (ho b o e).2⟩
    · rw [upd_other _ _ e'] at e
      exact ⟨Nat.lt_of_lt_of_le (h.off i hi b o e).1 kk.size, (h.off i hi b o e).2⟩
/-- a copy takes the place of another one -/
theorem Play.copy {W W2 : World} {S L m to nb : Nat} {f : Nat → Nat} {T : Nat → Tr (Int × Int)} {av : Nat → Option Addr} {cp : Nat → Nat} (h : Play W S L f T av cp) (hm : m < 3) (ht : to < 3) (l2 : Later W W2) (hn : W.heap.size ≤ nb)
    (hs : Shf (fun b => plX S L f b ∨ W.heap.size ≤ b) W2 nb 45 (T m)) : Play ((W2.setCell ⟨S, to, none⟩ (.pointer (some ⟨nb, 0, none⟩))).setCell ⟨L, to, none⟩ (.slice (av m) (T m).list.length (cp m))) S L (upd f to nb) (upd T to (T m)) (upd av to (av m)) (upd cp to (cp m)) := by
  have hX' : ∀ b, plX S L (upd f to nb) b → plX S L f b ∨ W.heap.size ≤ b := by
    intro b hb
    rcases hb with rfl | rfl | ⟨k, hk, rfl⟩
    · exact .inl (.inl rfl)
    · exact .inl (.inr (.inl rfl))
    · by_cases e : k = to
      · subst e; rw [upd_self]; exact .inr hn
      · rw [upd_other _ _ e]; exact .inl (.inr (.inr ⟨k, hk, rfl⟩))
  have kS : Chg (only S) W2 (W2.setCell ⟨S, to, none⟩ (.pointer (some ⟨nb, 0, none⟩))) := Chg.set _ _ rfl
  have kL : Chg (only L) (W2.setCell ⟨S, to, none⟩ (.pointer (some ⟨nb, 0, none⟩))) ((W2.setCell ⟨S, to, none⟩ (.pointer (some ⟨nb, 0, none⟩))).setCell ⟨L, to, none⟩ (.slice (av m) (T m).list.length (cp m))) := Chg.set _ _ rfl
  have oS : ∀ b, only S b → plX S L (upd f to nb) b := fun b e => .inl e
  have oL : ∀ b, only L b → plX S L (upd f to nb) b := fun b e => .inr (.inl e)
  have kk := (kS.mono oS).trans (kL.mono oL)
  have haw : ∀ k, k < 3 → upd f to nb k ≠ S ∧ upd f to nb k ≠ L := fun k hk => by
    have h1 := h.s.lt
    have h2 := h.l.lt
    by_cases e : k = to
    · subst e; rw [upd_self]; exact ⟨by omega, by omega⟩
    · rw [upd_other _ _ e]; exact h.away k hk
  have hsl : ∀ k, k < 3 → ∀ b o, av k = some ⟨b, o, none⟩ → b < W.heap.size ∧ ¬ plX S L (upd f to nb) b := fun k hk b o e => by
    obtain ⟨h1, h2⟩ := h.off k hk b o e
    exact ⟨h1, fun hb => (hX' b hb).elim h2 (fun h3 => by omega)⟩
  have hsz : W.heap.size ≤ ((W2.setCell ⟨S, to, none⟩ (.pointer (some ⟨nb, 0, none⟩))).setCell ⟨L, to, none⟩ (.slice (av m) (T m).list.length (cp m))).heap.size := Nat.le_trans l2.size kk.size
  have hnb := hs.lt
  have hflt : ∀ k, k < 3 → f k < W.heap.size := fun k hk => (h.shf k hk).lt
  refine ⟨?_, ?_, fun i hi => ?_, fun i hi => ?_, fun i hi => ?_, fun i hi b o e => ?_, fun i j hi hj e => ?_, haw, h.ne⟩
  · refine (((h.s.later l2).set ht (.pointer (some ⟨nb, 0, none⟩))).keep kL (fun e => h.ne e)).congr fun j hj => ?_
    by_cases e : j = to
    · subst e; simp [upd]
    · simp [upd, e]
  · refine (((h.l.later l2).keep kS (fun e => h.ne e.symm)).set ht (.slice (av m) (T m).list.length (cp m))).congr fun j hj => ?_
    by_cases e : j = to
    · subst e; simp [upd]
    · simp [upd, e]
  · have hbase : Shf (plX S L (upd f to nb)) W2 (upd f to nb i) 45 (upd T to (T m) i) := by
      by_cases e : i = to
      · subst e; rw [upd_self, upd_self]; exact hs.more fun b hb _ => hX' b hb
      · rw [upd_other _ _ e, upd_other _ _ e]
        exact ((h.shf i hi).more (Y := plX S L (upd f to nb)) fun b hb hlt => (hX' b hb).resolve_right (by omega)).later l2
    exact (hbase.keep kS oS (fun e => (haw i hi).1 e)).keep kL oL (fun e => (haw i hi).2 e)
  · by_cases e : i = to
    · subst e; rw [upd_self]; exact h.rise m hm
    · rw [upd_other _ _ e]; exact h.rise i hi
  · by_cases e : i = to
    · subst e; rw [upd_self, upd_self, upd_self]
      exact ((h.sl m hm).later l2).chg kk (fun b o e _ => (hsl m hm b o e).2)
    · rw [upd_other _ _ e, upd_other _ _ e, upd_other _ _ e]
      exact ((h.sl i hi).later l2).chg kk (fun b o e _ => (hsl i hi b o e).2)
  · by_cases e' : i = to
    · subst e'; rw [upd_self] at e
      exact ⟨Nat.lt_of_lt_of_le (hsl m hm b o e).1 hsz, (hsl m hm b o e).2⟩
    · rw [upd_other _ _ e'] at e
      exact ⟨Nat.lt_of_lt_of_le (hsl i hi b o e).1 hsz, (hsl i hi b o e).2⟩
  · by_cases e1 : i = to
    · by_cases e2 : j = to
      · rw [e1, e2]
      · subst e1; rw [upd_self, upd_other _ _ e2] at e; have := hflt j hj; omega
    · by_cases e2 : j = to
      · subst e2; rw [upd_self, upd_other _ _ e1] at e; have := hflt i hi; omega
      · rw [upd_other _ _ e1, upd_other _ _ e2] at e; exact h.dist i j hi hj e
end Go.Proofs.Yteledidnhjioaaa.Sh
