import Derived.Test.YtlhhpdomiioeiaaGreatDoorOa
namespace Go.Proofs.YtlhhpdomiioeiaaGreatDoor.Tu
open Go.RowKit Go.Lib Go.Proofs
set_option linter.unusedVariables false
set_option linter.unusedSimpArgs false
/-! ### orders by keys: the plain law -/
theorem cmpS_cmpL (a b : ByteArray) : cmpS a b = cmpL a.toList b.toList := rfl
theorem cmpL_rng (s t : List UInt8) : cmpL s t = -1 ∨ cmpL s t = 0 ∨ cmpL s t = 1 := by
  unfold cmpL
  split
  · exact .inl rfl
  · split
    · exact .inr (.inl rfl)
    · exact .inr (.inr rfl)
theorem cmpL_anti : ∀ s t : List UInt8, cmpL t s = - cmpL s t
  | [], [] => rfl
  | [], y :: t => by rw [cmpL_right]; rfl
  | x :: s, [] => by rw [cmpL_right]; rfl
  | x :: s, y :: t => by
    rw [cmpL_cons, cmpL_cons, cmpL_anti s t]
    rcases Nat.lt_trichotomy x.toNat y.toNat with h | h | h
    · rw [if_neg (by omega), if_pos h, if_pos h]; rfl
    · rw [if_neg (by omega), if_neg (by omega), if_neg (by omega), if_neg (by omega)]
    · rw [if_pos h, if_neg (by omega), if_pos h]
theorem cmpL_zero (s t : List UInt8) : cmpL s t = 0 ↔ s = t := by
  constructor
  · intro h
    unfold cmpL at h
    split at h
    · cases h
    · split at h
      · rename_i h2; simpa using h2
      · cases h
  · intro h
    subst h
    have h1 := cmpL_anti s s
    omega
/-- three that stand in a row -/
def T3 (p q r : Int) : Prop := p ≤ 0 → q ≤ 0 → r ≤ 0 ∧ (r = 0 → p = 0 ∧ q = 0)
theorem T3_cmp : ∀ s t u : List UInt8, T3 (cmpL s t) (cmpL t u) (cmpL s u)
  | [], [], u => fun _ h => ⟨h, fun h => ⟨rfl, h⟩⟩
  | [], y :: t, [] => fun _ h => by rw [cmpL_right] at h; omega
  | [], y :: t, z :: u => fun _ _ => ⟨by show (-1 : Int) ≤ 0; decide, fun h => by have : (-1 : Int) = 0 := h; cases this⟩
  | x :: s, [], u => fun h _ => by rw [cmpL_right] at h; omega
  | x :: s, y :: t, [] => fun _ h => by rw [cmpL_right] at h; omega
  | x :: s, y :: t, z :: u => by
    have ih := T3_cmp s t u
    unfold T3 at *
    rw [cmpL_cons, cmpL_cons, cmpL_cons]
    rcases Nat.lt_trichotomy x.toNat y.toNat with h | h | h
    · rcases Nat.lt_trichotomy y.toNat z.toNat with g | g | g
      · rw [if_pos h, if_pos g, if_pos (by omega)]; omega
      · rw [if_pos h, if_neg (by omega), if_neg (by omega), if_pos (by omega)]; omega
      · rw [if_neg (by omega : ¬ y.toNat < z.toNat), if_pos g]; omega
    · rcases Nat.lt_trichotomy y.toNat z.toNat with g | g | g
      · rw [if_pos g, if_pos (by omega : x.toNat < z.toNat)]; omega
      · rw [if_neg (by omega : ¬ x.toNat < y.toNat), if_neg (by omega : ¬ y.toNat < x.toNat), if_neg (by omega : ¬ y.toNat < z.toNat), if_neg (by omega : ¬ z.toNat < y.toNat), if_neg (by omega : ¬ x.toNat < z.toNat), if_neg (by omega : ¬ z.toNat < x.toNat)]; exact ih
      · rw [if_neg (by omega : ¬ y.toNat < z.toNat), if_pos g]; omega
    · rw [if_neg (by omega : ¬ x.toNat < y.toNat), if_pos h]; omega
theorem orL_cons (x : Int) (l : List Int) : orL (x :: l) = if x = 0 then orL l else x := rfl
theorem T3_or {p q r : Int} {ps qs rs : List Int} (h : T3 p q r) (k : T3 (orL ps) (orL qs) (orL rs)) : T3 (orL (p :: ps)) (orL (q :: qs)) (orL (r :: rs)) := by
  unfold T3 at *
  rw [orL_cons, orL_cons, orL_cons]
  intro a b
  have hp : p ≤ 0 := by split at a <;> omega
  have hq : q ≤ 0 := by split at b <;> omega
  obtain ⟨h1, h2⟩ := h hp hq
  by_cases hr : r = 0
  · obtain ⟨h3, h4⟩ := h2 hr
    rw [if_pos h3] at a ⊢
    rw [if_pos h4] at b ⊢
    rw [if_pos hr]
    exact k a b
  · rw [if_neg hr]
    exact ⟨h1, fun e => absurd e hr⟩
theorem T3_nil : T3 (orL []) (orL []) (orL []) := fun _ _ => ⟨Int.le_refl _, fun _ => ⟨rfl, rfl⟩⟩
abbrev R1 (p : Int) : Prop := p = -1 ∨ p = 0 ∨ p = 1
theorem R1_or {p : Int} {ps : List Int} (h : R1 p) (k : R1 (orL ps)) : R1 (orL (p :: ps)) := by
  rw [orL_cons]
  split
  · exact k
  · exact h
theorem R1_nil : R1 (orL []) := .inr (.inl rfl)
theorem neg_or {p q : Int} {ps qs : List Int} (h : q = -p) (k : orL qs = - orL ps) : orL (q :: qs) = - orL (p :: ps) := by
  rw [orL_cons, orL_cons, h, k]
  by_cases hp : p = 0
  · rw [if_pos hp, if_pos (by omega)]
  · rw [if_neg hp, if_neg (by omega)]
theorem neg_nil : orL [] = - orL [] := rfl
theorem zero_or {p : Int} {ps : List Int} : orL (p :: ps) = 0 ↔ p = 0 ∧ orL ps = 0 := by
  rw [orL_cons]
  by_cases hp : p = 0
  · rw [if_pos hp]; exact ⟨fun h => ⟨hp, h⟩, fun h => h.2⟩
  · rw [if_neg hp]; exact ⟨fun h => absurd h hp, fun h => h.1⟩
theorem zero_nil : orL [] = 0 := rfl
theorem T3_S (a b c : ByteArray) : T3 (cmpS a b) (cmpS b c) (cmpS a c) := T3_cmp _ _ _
theorem R1_S (a b : ByteArray) : R1 (cmpS a b) := cmpL_rng _ _
theorem neg_S (a b : ByteArray) : cmpS b a = - cmpS a b := cmpL_anti _ _
theorem zero_S (a b : ByteArray) : cmpS a b = 0 ↔ a.toList = b.toList := cmpL_zero _ _
theorem keyC_T3 (x y z : TupV) : T3 (keyC x y) (keyC y z) (keyC x z) :=
  T3_or (T3_or (T3_S _ _ _) (T3_or (T3_S _ _ _) T3_nil)) (T3_or (T3_S _ _ _) (T3_or (T3_or (T3_S _ _ _) (T3_or (T3_S _ _ _) (T3_or (T3_S _ _ _) T3_nil))) T3_nil))
theorem keyB_T3 (x y z : TupV) : T3 (keyB x y) (keyB y z) (keyB x z) :=
  T3_or (T3_or (T3_S _ _ _) (T3_or (T3_S _ _ _) (T3_or (T3_S _ _ _) T3_nil))) (T3_or (T3_or (T3_S _ _ _) (T3_or (T3_S _ _ _) T3_nil)) (T3_or (T3_S _ _ _) T3_nil))
theorem keyC_R1 (x y : TupV) : R1 (keyC x y) :=
  R1_or (R1_or (R1_S _ _) (R1_or (R1_S _ _) R1_nil)) (R1_or (R1_S _ _) (R1_or (R1_or (R1_S _ _) (R1_or (R1_S _ _) (R1_or (R1_S _ _) R1_nil))) R1_nil))
theorem keyB_R1 (x y : TupV) : R1 (keyB x y) :=
  R1_or (R1_or (R1_S _ _) (R1_or (R1_S _ _) (R1_or (R1_S _ _) R1_nil))) (R1_or (R1_or (R1_S _ _) (R1_or (R1_S _ _) R1_nil)) (R1_or (R1_S _ _) R1_nil))
theorem keyC_neg (x y : TupV) : keyC y x = - keyC x y :=
  neg_or (neg_or (neg_S _ _) (neg_or (neg_S _ _) neg_nil)) (neg_or (neg_S _ _) (neg_or (neg_or (neg_S _ _) (neg_or (neg_S _ _) (neg_or (neg_S _ _) neg_nil))) neg_nil))
theorem keyB_neg (x y : TupV) : keyB y x = - keyB x y :=
  neg_or (neg_or (neg_S _ _) (neg_or (neg_S _ _) (neg_or (neg_S _ _) neg_nil))) (neg_or (neg_or (neg_S _ _) (neg_or (neg_S _ _) neg_nil)) (neg_or (neg_S _ _) neg_nil))
/-- the objects' and the subjects' parts -/
def oEq (x y : TupV) : Bool := x.t0.toList == y.t0.toList && x.t1.toList == y.t1.toList
def sEq (x y : TupV) : Bool := x.t3.toList == y.t3.toList && x.t4.toList == y.t4.toList && x.t5.toList == y.t5.toList
def rEq (x y : TupV) : Bool := x.t2.toList == y.t2.toList
def kEq (x y : TupV) : Bool := oEq x y && (rEq x y && sEq x y)
theorem keyC_zero (x y : TupV) : (keyC x y == 0) = kEq x y := by
  have h : keyC x y = 0 ↔ kEq x y = true := by
    unfold keyC kEq oEq rEq sEq
    simp only [zero_or, zero_nil, zero_S, Bool.and_eq_true, beq_iff_eq, and_true]
    constructor
    · rintro ⟨⟨a, b⟩, c, d, e, f⟩; exact ⟨⟨a, b⟩, c, ⟨d, e⟩, f⟩
    · rintro ⟨⟨a, b⟩, c, ⟨d, e⟩, f⟩; exact ⟨⟨a, b⟩, c, d, e, f⟩
  by_cases hk : keyC x y = 0
  · rw [h.1 hk]; simpa using hk
  · have : kEq x y = false := by
      cases e : kEq x y with
      | false => rfl
      | true => exact absurd (h.2 e) hk
    rw [this]; simpa using hk
theorem keyB_zero (x y : TupV) : (keyB x y == 0) = kEq x y := by
  have h : keyB x y = 0 ↔ kEq x y = true := by
    unfold keyB kEq oEq rEq sEq
    simp only [zero_or, zero_nil, zero_S, Bool.and_eq_true, beq_iff_eq, and_true]
    constructor
    · rintro ⟨⟨d, e, f⟩, ⟨a, b⟩, c⟩; exact ⟨⟨a, b⟩, c, ⟨d, e⟩, f⟩
    · rintro ⟨⟨a, b⟩, c, ⟨d, e⟩, f⟩; exact ⟨⟨d, e, f⟩, ⟨a, b⟩, c⟩
  by_cases hk : keyB x y = 0
  · rw [h.1 hk]; simpa using hk
  · have : kEq x y = false := by
      cases e : kEq x y with
      | false => rfl
      | true => exact absurd (h.2 e) hk
    rw [this]; simpa using hk
theorem keys_one (x y : TupV) (h1 : oEq x y = true) (h2 : rEq x y = true) : keyC x y = keyB x y := by
  unfold oEq at h1
  unfold rEq at h2
  rw [Bool.and_eq_true] at h1
  have e0 := (zero_S x.t0 y.t0).2 (by simpa using h1.1)
  have e1 := (zero_S x.t1 y.t1).2 (by simpa using h1.2)
  have e2 := (zero_S x.t2 y.t2).2 (by simpa using h2)
  unfold keyC keyB
  rw [e0, e1, e2]
  simp only [orL_cons, if_true]
  generalize (if cmpS x.t3 y.t3 = 0 then if cmpS x.t4 y.t4 = 0 then if cmpS x.t5 y.t5 = 0 then orL [] else cmpS x.t5 y.t5 else cmpS x.t4 y.t4 else cmpS x.t3 y.t3) = v
  have e : orL [] = 0 := rfl
  rw [e]
  by_cases h : v = 0
  · simp [h]
  · simp [h]
theorem sameT_parts (x y : TupV) (s : Bool) : sameT x y s = (kEq x y && (x.t6.toList == y.t6.toList && s)) := by
  unfold sameT kEq oEq rEq sEq
  simp only [Bool.and_assoc]
end Go.Proofs.YtlhhpdomiioeiaaGreatDoor.Tu
