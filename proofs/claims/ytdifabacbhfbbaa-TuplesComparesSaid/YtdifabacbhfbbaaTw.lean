import Derived.Test.YtdifabacbhfbbaaTu
import Derived.Laws.BitsAllLaws
namespace Go.Proofs.Ytdifabacbhfbbaa.Tu
open Go.RowKit Go.Lib Go.Proofs
set_option linter.unusedVariables false
set_option linter.unusedSimpArgs false
/-! ### reals: the plain law -/
abbrev sgn (r : Nat) : Bool := r / 2147483648 % 2 == 1
abbrev rung (r : Nat) : Nat := r % 2147483648
theorem read_is (r : Nat) : FloatKind.f32.format.read r = if rung r < 8388608 then .number (sgn r) (rung r) (-149) else if rung r < 2139095040 then .number (sgn r) (8388608 + rung r % 8388608) (-149 + ((rung r / 8388608 - 1 : Nat) : Int)) else if rung r = 2139095040 then .infinity (sgn r) else .nan (sgn r) (rung r - 2139095040) := rfl
theorem split_r {r : Nat} (h : r < 4294967296) : r = rung r + (if sgn r = true then 2147483648 else 0) := by
  unfold sgn rung
  by_cases h1 : r < 2147483648
  · have : r / 2147483648 = 0 := by omega
    simp [this]; omega
  · have : r / 2147483648 = 1 := by omega
    simp [this]; omega
theorem cmp_eq_int {a b : Int} (h : compare a b = Ordering.eq) : a = b := by
  by_cases h1 : a < b
  · simp [compare, compareOfLessAndEq, h1] at h
  · by_cases h2 : a = b
    · exact h2
    · simp [compare, compareOfLessAndEq, h1, h2] at h
theorem signed_eq {s t : Bool} {m n i j : Nat} (h : Ieee.signed s m i = Ieee.signed t n j) : m <<< i = n <<< j ∧ (m <<< i = 0 ∨ s = t) := by
  unfold Ieee.signed at h
  generalize m <<< i = A at h ⊢
  generalize n <<< j = B at h ⊢
  cases s <;> cases t <;> simp only [if_true, Bool.false_eq_true, if_false, reduceCtorEq, or_false, or_true, and_true] at h ⊢ <;> omega
/-- two numbers in their one form are the same only if they are written the same, or both nought -/
theorem num_eq {s t : Bool} {m n i j : Nat} (hm : m < 16777216) (hn : n < 16777216) (hi : i = 0 ∨ 8388608 ≤ m) (hj : j = 0 ∨ 8388608 ≤ n)
    (h : (Ieee.Datum.number s m (-149 + (i : Int))).order (.number t n (-149 + (j : Int))) = some .eq) : m = n ∧ i = j ∧ (m = 0 ∨ s = t) := by
  unfold Ieee.Datum.order at h
  simp only [Option.some.injEq] at h
  obtain ⟨h1, h2⟩ := signed_eq (cmp_eq_int h)
  rcases Nat.lt_trichotomy i j with hij | hij | hij
  · have e1 : (-149 + (i : Int) - min (-149 + (i : Int)) (-149 + (j : Int))).toNat = 0 := by omega
    have e2 : (-149 + (j : Int) - min (-149 + (i : Int)) (-149 + (j : Int))).toNat = (j - i - 1) + 1 := by omega
    rw [e1, e2, Nat.shiftLeft_zero, Nat.shiftLeft_succ, Nat.shiftLeft_eq] at h1
    have : n * 1 ≤ n * 2 ^ (j - i - 1) := Nat.mul_le_mul_left _ (Nat.two_pow_pos _)
    omega
  · subst hij
    have e1 : (-149 + (i : Int) - min (-149 + (i : Int)) (-149 + (i : Int))).toNat = 0 := by omega
    rw [e1, Nat.shiftLeft_zero, Nat.shiftLeft_zero] at h1
    rw [e1, Nat.shiftLeft_zero] at h2
    exact ⟨h1, rfl, h2⟩
  · have e1 : (-149 + (j : Int) - min (-149 + (i : Int)) (-149 + (j : Int))).toNat = 0 := by omega
    have e2 : (-149 + (i : Int) - min (-149 + (i : Int)) (-149 + (j : Int))).toNat = (i - j - 1) + 1 := by omega
    rw [e1, e2, Nat.shiftLeft_zero, Nat.shiftLeft_succ, Nat.shiftLeft_eq] at h1
    have : m * 1 ≤ m * 2 ^ (i - j - 1) := Nat.mul_le_mul_left _ (Nat.two_pow_pos _)
    omega
/-- the number's parts, where it is one -/
theorem read_num {r : Nat} (h : rung r < 2139095040) : ∃ m i : Nat, FloatKind.f32.format.read r = .number (sgn r) m (-149 + (i : Int)) ∧ m < 16777216 ∧ (i = 0 ∨ 8388608 ≤ m) ∧ rung r = m + i * 8388608 ∧ (m = 0 → rung r = 0) := by
  rw [read_is]
  by_cases h1 : rung r < 8388608
  · rw [if_pos h1]
    exact ⟨rung r, 0, rfl, by omega, Or.inl rfl, by omega, id⟩
  · rw [if_neg h1, if_pos h]
    refine ⟨8388608 + rung r % 8388608, rung r / 8388608 - 1, rfl, by omega, Or.inr (by omega), ?_, by omega⟩
    have := Nat.div_add_mod (rung r) 8388608
    have : 1 ≤ rung r / 8388608 := by omega
    omega
theorem read_inf {r : Nat} (h : rung r = 2139095040) : FloatKind.f32.format.read r = .infinity (sgn r) := by
  rw [read_is, if_neg (by omega), if_neg (by omega), if_pos h]
theorem read_nan {r : Nat} (h : 2139095040 < rung r) : FloatKind.f32.format.read r = .nan (sgn r) (rung r - 2139095040) := by
  rw [read_is, if_neg (by omega), if_neg (by omega), if_neg (by omega)]
theorem inf_eq {s t : Bool} (h : (Ieee.Datum.infinity s).order (.infinity t) = some .eq) : s = t := by
  cases s <;> cases t <;> first | rfl | (exact absurd h (by decide))
theorem inf_num {s t : Bool} {m : Nat} {i : Int} (h : (Ieee.Datum.infinity s).order (.number t m i) = some .eq) : False := by
  cases s <;> exact absurd h (by simp [Ieee.Datum.order])
theorem num_inf {s t : Bool} {m : Nat} {i : Int} (h : (Ieee.Datum.number t m i).order (.infinity s) = some .eq) : False := by
  cases s <;> exact absurd h (by simp [Ieee.Datum.order])
theorem order_eq {a b : Nat} (ha : a < 4294967296) (hb : b < 4294967296) (h : FloatKind.f32.format.order a b = some .eq) : (a = b ∨ (rung a = 0 ∧ rung b = 0)) ∧ rung a ≤ 2139095040 := by
  have sa := split_r ha
  have sb := split_r hb
  unfold Ieee.Format.order at h
  rcases Nat.lt_trichotomy (rung a) 2139095040 with h1 | h1 | h1
  · obtain ⟨m, i, e1, p1, p2, p3, p4⟩ := read_num h1
    rw [e1] at h
    rcases Nat.lt_trichotomy (rung b) 2139095040 with h2 | h2 | h2
    · obtain ⟨n, j, e2, q1, q2, q3, q4⟩ := read_num h2
      rw [e2] at h
      obtain ⟨r1, r2, r3⟩ := num_eq p1 q1 p2 q2 h
      refine ⟨?_, by omega⟩
      rcases r3 with r3 | r3
      · exact Or.inr ⟨p4 r3, q4 (by omega)⟩
      · left
        rw [sa, sb, r3, p3, q3, r1, r2]
    · rw [read_inf h2] at h
      exact (num_inf h).elim
    · rw [read_nan h2] at h
      simp [Ieee.Datum.order] at h
  · rw [read_inf h1] at h
    rcases Nat.lt_trichotomy (rung b) 2139095040 with h2 | h2 | h2
    · obtain ⟨n, j, e2, _⟩ := read_num h2
      rw [e2] at h
      exact (inf_num h).elim
    · rw [read_inf h2] at h
      refine ⟨Or.inl ?_, by omega⟩
      rw [sa, sb, inf_eq h, h1, h2]
    · rw [read_nan h2] at h
      simp [Ieee.Datum.order] at h
  · rw [read_nan h1] at h
    simp [Ieee.Datum.order] at h
theorem order_self {a : Nat} (h : rung a ≤ 2139095040) : FloatKind.f32.format.order a a = some .eq := by
  unfold Ieee.Format.order
  rcases Nat.lt_or_eq_of_le h with h1 | h1
  · obtain ⟨m, i, e1, _⟩ := read_num h1
    rw [e1]
    simp [Ieee.Datum.order, compare, compareOfLessAndEq]
  · rw [read_inf h1]
    cases sgn a <;> rfl
theorem nan_is {a : Nat} (ha : a < 4294967296) : nanR a = decide (2139095040 < rung a) := by
  unfold nanR
  by_cases h : 2139095040 < rung a
  · have : FloatKind.f32.format.order a a ≠ some .eq := fun e => by have := (order_eq ha ha e).2; omega
    rw [decide_eq_true h]
    simpa using this
  · rw [order_self (by omega), decide_eq_false h]
    rfl
theorem key_low {a : Nat} (ha : a < 2147483648) (hn : nanR a = false) : keyR a = (a : Int) + 2147483648 := by
  unfold keyR
  rw [hn, if_neg (by decide), if_neg (by simp; omega)]
  have h := u32_or_nat a 2147483648 (by omega) (by omega)
  have e : a ||| 2147483648 = a + 2147483648 := by
    have := Nat.two_pow_add_eq_or_of_lt (i := 31) (b := a) (by omega) 1
    rw [Nat.or_comm]
    have e2 : (2 : Nat) ^ 31 * 1 = 2147483648 := by decide
    rw [e2] at this
    rw [← this]; omega
  rw [e] at h
  rw [show ((2147483648 : Nat) : Int) = 2147483648 from rfl] at h
  rw [h]; omega
theorem key_high {a : Nat} (h1 : 2147483648 ≤ a) (h2 : a < 4294967296) (hn : nanR a = false) : keyR a = 4294967295 - (a : Int) := by
  unfold keyR
  rw [hn, if_neg (by decide), if_pos (by simp; omega)]
  show IntKind.u32.wrap ((BitVec.ofInt 32 4294967295 ^^^ BitVec.ofInt 32 (a : Int)).toNat : Int) = _
  have e : BitVec.ofInt 32 4294967295 = BitVec.allOnes 32 := by decide
  have ea : (BitVec.ofInt 32 (a : Int)).toNat = a := by
    rw [BitVec.ofInt_natCast, BitVec.toNat_ofNat]; exact Nat.mod_eq_of_lt (by omega)
  rw [e, BitVec.allOnes_xor, BitVec.toNat_not, ea]
  simp [IntKind.wrap, IntKind.bits, IntKind.signed]
  omega
/-- what the reference asks of two reals -/
def belowR (a : Nat) : Bool := FloatKind.f32.format.order a 0 == some .lt || (FloatKind.f32.format.order a 0 == some .eq && (match FloatKind.f32.format.div 1065353216 a with | some q => FloatKind.f32.format.order q 0 == some .lt | none => false))
def sameR (a b : Nat) : Bool := nanR a && nanR b || (FloatKind.f32.format.order a b == some .eq && belowR a == belowR b)
theorem keys_same {a b : Nat} (ha : a < 4294967296) (hb : b < 4294967296) : (keyR a == keyR b) = sameR a b := by
  have na := nan_is ha
  have nb := nan_is hb
  have sa := split_r ha
  have sb := split_r hb
  have key : ∀ {c : Nat}, c < 4294967296 → nanR c = false → keyR c = (if 2147483648 ≤ c then 4294967295 - (c : Int) else (c : Int) + 2147483648) := fun {c} hc hn => by
    by_cases h : 2147483648 ≤ c
    · rw [if_pos h]; exact key_high h hc hn
    · rw [if_neg h]; exact key_low (by omega) hn
  have keyN : ∀ {c : Nat}, nanR c = true → keyR c = 4290772992 := fun {c} hn => by unfold keyR; rw [hn]; rfl
  have nokey : ∀ {c : Nat}, c < 4294967296 → nanR c = false → keyR c ≠ 4290772992 := fun {c} hc hn e => by
    rw [key hc hn] at e
    have n := nan_is hc
    rw [hn] at n
    have hr := of_decide_eq_false n.symm
    unfold rung at hr
    split at e <;> omega
  have noord : ∀ {c d : Nat}, nanR c = true → FloatKind.f32.format.order c d ≠ some .eq ∧ FloatKind.f32.format.order d c ≠ some .eq := fun {c d} hn => by
    have hr : 2139095040 < rung c := by
      unfold nanR at hn
      by_cases hlt : 2139095040 < rung c
      · exact hlt
      · rw [order_self (by omega)] at hn
        exact absurd hn (by decide)
    unfold Ieee.Format.order
    rw [read_nan hr]
    constructor
    · cases FloatKind.f32.format.read d <;> simp [Ieee.Datum.order]
    · cases FloatKind.f32.format.read d <;> simp [Ieee.Datum.order]
  unfold sameR
  cases ea : nanR a with
  | true =>
    cases eb : nanR b with
    | true => rw [keyN ea, keyN eb]; rfl
    | false =>
      have h1 := nokey hb eb
      have h2 := (noord (d := b) ea).1
      rw [keyN ea]
      have : (4290772992 == keyR b) = false := by rw [beq_eq_false_iff_ne]; exact fun h => h1 h.symm
      rw [this]
      simp [h2]
  | false =>
    cases eb : nanR b with
    | true =>
      have h1 := nokey ha ea
      have h2 := (noord (d := a) eb).2
      rw [keyN eb]
      have : (keyR a == 4290772992) = false := by rw [beq_eq_false_iff_ne]; exact h1
      rw [this]
      simp [h2]
    | false =>
      have la : rung a ≤ 2139095040 := by rw [ea] at na; have := of_decide_eq_false na.symm; omega
      have lb : rung b ≤ 2139095040 := by rw [eb] at nb; have := of_decide_eq_false nb.symm; omega
      by_cases hab : a = b
      · subst hab
        rw [order_self la]
        simp
      · have hk : (keyR a == keyR b) = false := by
          rw [beq_eq_false_iff_ne, key ha ea, key hb eb]
          intro e
          split at e <;> split at e <;> omega
        rw [hk]
        by_cases ho : FloatKind.f32.format.order a b = some .eq
        · rcases (order_eq ha hb ho).1 with h | ⟨z1, z2⟩
          · exact absurd h hab
          · rw [z1] at sa
            rw [z2] at sb
            have b0 : belowR 0 = false := by decide +kernel
            have b1 : belowR 2147483648 = true := by decide +kernel
            have hne : (belowR a == belowR b) = false := by
              cases h1 : sgn a <;> cases h2 : sgn b <;> rw [h1] at sa <;> rw [h2] at sb <;> simp at sa sb
              · omega
              · rw [sa, sb, b0, b1]; rfl
              · rw [sa, sb, b0, b1]; rfl
              · omega
            rw [hne]; simp
        · simp [ho]
end Go.Proofs.Ytdifabacbhfbbaa.Tu
