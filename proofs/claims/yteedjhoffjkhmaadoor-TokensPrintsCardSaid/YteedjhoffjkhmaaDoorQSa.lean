import Derived.Test.YteedjhoffjkhmaaDoorPTx5
import Derived.Test.YteedjhoffjkhmaaDoorPTx6
import Derived.Test.YteedjhoffjkhmaaDoorPTx7
import Derived.Test.YteedjhoffjkhmaaDoorPTx10
import Derived.Test.YteedjhoffjkhmaaDoorPTx11
import Derived.Test.YteedjhoffjkhmaaDoorPTx12
import Derived.Test.YteedjhoffjkhmaaDoorPTx13
import Derived.Test.YteedjhoffjkhmaaDoorPTx14
namespace Go.Proofs.YteedjhoffjkhmaaDoor.Q
open Go.RowKit Go.Proofs.YteedjhoffjkhmaaDoor.PT Go.Proofs.YteedjhoffjkhmaaDoorW.PrintWords Go.Proofs.YteedjhoffjkhmaaDoorW.PrintLast Go.Proofs.YteedjhoffjkhmaaDoorW.PrintMore
set_option linter.unusedVariables false
set_option linter.unusedSimpArgs false
def Ev {α : Type} (F : Nat → Option α) (v : α) : Prop := ∃ K, ∀ k, K ≤ k → F k = some v
theorem Ev.pure {α : Type} (v : α) : Ev (fun _ => some v) v := ⟨0, fun _ _ => rfl⟩
theorem Ev.const {α : Type} {o : Option α} {v : α} (h : o = some v) : Ev (fun _ => o) v := ⟨0, fun _ _ => h⟩
theorem Ev.bind {α β : Type} {F : Nat → Option α} {G : Nat → α → Option β} {a : α} {v : β} (h : Ev F a) (g : Ev (fun k => G k a) v) : Ev (fun k => (F k).bind (G k)) v := by
  obtain ⟨K, hK⟩ := h
  obtain ⟨L, hL⟩ := g
  exact ⟨max K L, fun k hk => by show (F k).bind (G k) = some v; rw [hK k (by omega)]; exact hL k (by omega)⟩
theorem Ev.succ {α : Type} {F : Nat → Option α} {v : α} (h : Ev (fun k => F (k + 1)) v) : Ev F v := by
  obtain ⟨K, hK⟩ := h
  exact ⟨K + 1, fun k hk => by obtain ⟨j, rfl⟩ : ∃ j, k = j + 1 := ⟨k - 1, by omega⟩; exact hK j (by omega)⟩
theorem Ev.congr {α : Type} {F G : Nat → Option α} {v : α} (h : ∀ k, F k = G k) (g : Ev G v) : Ev F v := by
  obtain ⟨K, hK⟩ := g
  exact ⟨K, fun k hk => (h k).trans (hK k hk)⟩
theorem Ev.pos {α : Type} {c : Prop} [Decidable c] {F G : Nat → Option α} {v : α} (hc : c) (h : Ev F v) : Ev (fun k => if c then F k else G k) v := Ev.congr (fun k => if_pos hc) h
theorem Ev.neg {α : Type} {c : Prop} [Decidable c] {F G : Nat → Option α} {v : α} (hc : ¬ c) (h : Ev G v) : Ev (fun k => if c then F k else G k) v := Ev.congr (fun k => if_neg hc) h
theorem Ev.out {α : Type} {F : Nat → Option α} {v : α} (h : Ev F v) : ∃ k, F k = some v := by
  obtain ⟨K, hK⟩ := h
  exact ⟨K, hK K (Nat.le_refl _)⟩
theorem Ev.val {α : Type} {F : Nat → Option α} {v v' : α} (h : Ev F v) (e : v = v') : Ev F v' := e ▸ h
theorem w64 {x : Int} (h0 : -9223372036854775808 ≤ x) (h1 : x < 9223372036854775808) : wrap64 x = x := by
  unfold wrap64; omega
theorem Ev.of_mono {α : Type} {F : Nat → Option α} {K : Nat} {v : α} (m : ∀ k, LeO (F k) (F (k + 1))) (h : F K = some v) : Ev F v := by
  refine ⟨K, fun k hk => ?_⟩
  obtain ⟨j, rfl⟩ : ∃ j, k = K + j := ⟨k - K, by omega⟩
  clear hk
  induction j with
  | zero => exact h
  | succ j ih => exact m _ _ ih
def hexV (c : Nat) : Option Nat := if 48 ≤ c ∧ c ≤ 57 then some (c - 48) else if 97 ≤ c ∧ c ≤ 102 then some (c - 87) else if 65 ≤ c ∧ c ≤ 70 then some (c - 55) else none
theorem hexV_lt {c a : Nat} (h : hexV c = some a) : a < 16 := by
  unfold hexV at h
  split at h
  · simp at h; omega
  · split at h
    · simp at h; omega
    · split at h
      · simp at h; omega
      · simp at h
def qF : List UInt8 → List Int → Nat → List Int × Nat × Bool
  | [], _, i => ([], i, false)
  | [c], out, i => if c.toNat = 34 then (out, i + 1, true) else if c.toNat < 32 then ([], i, false) else ([], i + 1, false)
  | c :: e :: t, out, i =>
    if c.toNat = 34 then (out, i + 1, true)
    else if c.toNat < 32 then ([], i, false)
    else if c.toNat ≠ 92 then qF (e :: t) (out ++ [(c.toNat : Int)]) (i + 1)
    else if e.toNat = 34 ∨ e.toNat = 92 then qF t (out ++ [(e.toNat : Int)]) (i + 2)
    else if e.toNat = 110 then qF t (out ++ [10]) (i + 2)
    else if e.toNat ≠ 120 then ([], i + 1, false)
    else match t with
      | [] => ([], i + 2, false)
      | h1 :: t1 => match hexV h1.toNat with
        | none => ([], i + 2, false)
        | some a => match t1 with
          | [] => ([], i + 3, false)
          | h2 :: t2 => match hexV h2.toNat with
            | none => ([], i + 3, false)
            | some b => qF t2 (out ++ [(16 * a + b : Int)]) (i + 4)
def escP : List UInt8 → Int × Int × Bool
  | [] => (0, 0, false)
  | e :: t => if e.toNat = 34 ∨ e.toNat = 92 then ((e.toNat : Int), 1, true) else if e.toNat = 110 then (10, 1, true) else if e.toNat ≠ 120 then (0, 0, false) else match t with
    | [] => (0, 1, false)
    | h1 :: t1 => match hexV h1.toNat with
      | none => (0, 1, false)
      | some a => match t1 with
        | [] => (0, 2, false)
        | h2 :: _ => match hexV h2.toNat with
          | none => (0, 2, false)
          | some b => ((16 * a + b : Int), 3, true)
theorem bt_cons {s : ByteArray} {L : List UInt8} {n : Nat} {c : UInt8} (hs : s.data.toList = L) (h : L[n]? = some c) : bt s (n : Int) = (c.toNat : Int) := bt_of (by rw [hs]; exact h)
theorem qF_plain {c : UInt8} (h34 : c.toNat ≠ 34) (h32 : ¬ c.toNat < 32) (h92 : c.toNat ≠ 92) (T : List UInt8) (out : List Int) (i : Nat) : qF (c :: T) out i = qF T (out ++ [(c.toNat : Int)]) (i + 1) := by
  cases T with
  | nil => simp [qF, h34, h32]
  | cons e t => conv => lhs; rw [qF.eq_def]
                simp [h34, h32, h92]
theorem qF_end {c : UInt8} (h34 : c.toNat = 34) (T : List UInt8) (out : List Int) (i : Nat) : qF (c :: T) out i = (out, i + 1, true) := by
  cases T with
  | nil => simp [qF, h34]
  | cons e t => conv => lhs; rw [qF.eq_def]
                simp [h34]
theorem qF_low {c : UInt8} (h34 : c.toNat ≠ 34) (h32 : c.toNat < 32) (T : List UInt8) (out : List Int) (i : Nat) : qF (c :: T) out i = ([], i, false) := by
  cases T with
  | nil => simp [qF, h34, h32]
  | cons e t => conv => lhs; rw [qF.eq_def]
                simp [h34, h32]
def escK (p : Int × Int × Bool) (T : List UInt8) (out : List Int) (i : Nat) : List Int × Nat × Bool :=
  if p.2.2 = true then qF (T.drop p.2.1.toNat) (out ++ [p.1]) (i + 1 + p.2.1.toNat) else ([], i + 1 + p.2.1.toNat, false)
theorem qF_esc {c : UInt8} (h : c.toNat = 92) (T : List UInt8) (out : List Int) (i : Nat) :
    qF (c :: T) out i = escK (escP T) T out i := by
  cases T with
  | nil => simp [qF, h, escP, escK]
  | cons e t =>
    conv => lhs; rw [qF.eq_def]
    simp only [escP]
    rw [if_neg (by omega), if_neg (by omega), if_neg (by omega)]
    by_cases h1 : e.toNat = 34 ∨ e.toNat = 92
    · rw [if_pos h1, if_pos h1]; rfl
    · rw [if_neg h1, if_neg h1]
      by_cases h2 : e.toNat = 110
      · rw [if_pos h2, if_pos h2]; rfl
      · rw [if_neg h2, if_neg h2]
        by_cases h3 : e.toNat = 120
        · rw [if_neg (by omega), if_neg (by omega)]
          cases t with
          | nil => rfl
          | cons g t1 =>
            simp only
            rcases hg : hexV g.toNat with _ | a
            · simp only [hg]; rfl
            · simp only [hg]
              cases t1 with
              | nil => rfl
              | cons g2 t2 =>
                simp only
                rcases hg2 : hexV g2.toNat with _ | b
                · simp only [hg2]; rfl
                · simp only [hg2]; rfl
        · rw [if_pos h3, if_pos h3]; rfl
theorem escP_len (T : List UInt8) : 0 ≤ (escP T).2.1 ∧ (escP T).2.1.toNat ≤ T.length ∧ ((escP T).2.2 = true → 1 ≤ (escP T).2.1) := by
  unfold escP
  cases T with
  | nil => simp
  | cons e t =>
    simp only
    split
    · simp
    · split
      · simp
      · split
        · simp
        · cases t with
          | nil => simp
          | cons g t1 =>
            simp only
            rcases hg : hexV g.toNat with _ | a
            · simp
            · cases t1 with
              | nil => simp
              | cons g2 t2 =>
                simp only
                rcases hg2 : hexV g2.toNat with _ | b
                · simp
                · simp
theorem rd_get {α : Type} (d : α) (M : List α) (i : Nat) (h : i < M.length) : rdOf d M (i : Int) = M[i] := by
  unfold rdOf
  simp [List.getD_eq_getElem?_getD, h]
theorem mark_loop (s : ByteArray) (M : List ByteArray) (hM : M.length ≤ 1000) : ∀ (n i : Nat), n = M.length - i → i ≤ M.length →
    Ev (fun k => latchkeyref05_mark.l0 k s M (i : Int)) ((M.drop i).any (fun m => m.data.toList == s.data.toList)) := by
  intro n
  induction n with
  | zero =>
    intro i hn hi
    refine Ev.succ ?_
    simp only [latchkeyref05_mark.l0]
    refine Ev.neg (by omega) (Ev.const ?_)
    rw [List.drop_eq_nil_of_le (by omega)]
    rfl
  | succ n ih =>
    intro i hn hi
    have hlt : i < M.length := by omega
    refine Ev.succ ?_
    simp only [latchkeyref05_mark.l0]
    refine Ev.pos (by omega) (Ev.pos (by omega) ?_)
    rw [rd_get _ M i hlt, Lib.toList_data, Lib.toList_data, List.drop_eq_getElem_cons hlt, List.any_cons]
    by_cases h : M[i].data.toList = s.data.toList
    · refine Ev.pos h (Ev.const ?_)
      rw [h, beq_self_eq_true, Bool.true_or]
    · refine Ev.neg h ?_
      rw [show wrap64 ((i : Int) + 1) = ((i + 1 : Nat) : Int) by rw [w64 (by omega) (by omega)]; omega]
      refine (ih (i + 1) (by omega) (by omega)).val ?_
      rw [beq_false_of_ne h, Bool.false_or]
theorem word_loop (s : ByteArray) (M : List ByteArray) (hM : M.length ≤ 1000) : ∀ (n i : Nat), n = M.length - i → i ≤ M.length →
    Ev (fun k => latchkeyref05_Word.l0 k s M (i : Int)) ((M.drop i).any (fun m => m.data.toList == s.data.toList)) := by
  intro n
  induction n with
  | zero =>
    intro i hn hi
    refine Ev.succ ?_
    simp only [latchkeyref05_Word.l0]
    refine Ev.neg (by omega) (Ev.const ?_)
    rw [List.drop_eq_nil_of_le (by omega)]
    rfl
  | succ n ih =>
    intro i hn hi
    have hlt : i < M.length := by omega
    refine Ev.succ ?_
    simp only [latchkeyref05_Word.l0]
    refine Ev.pos (by omega) (Ev.pos (by omega) ?_)
    rw [rd_get _ M i hlt, Lib.toList_data, Lib.toList_data, List.drop_eq_getElem_cons hlt, List.any_cons]
    by_cases h : M[i].data.toList = s.data.toList
    · refine Ev.pos h (Ev.const ?_)
      rw [h, beq_self_eq_true, Bool.true_or]
    · refine Ev.neg h ?_
      rw [show wrap64 ((i : Int) + 1) = ((i + 1 : Nat) : Int) by rw [w64 (by omega) (by omega)]; omega]
      refine (ih (i + 1) (by omega) (by omega)).val ?_
      rw [beq_false_of_ne h, Bool.false_or]
def marksL : List (List UInt8) := [[91], [93], [40], [41], [44], [58], [35], [42], [43], [45], [47], [61], [61, 61], [33, 61], [60], [60, 61], [62], [62, 61]]
def wordsL : List (List UInt8) := [[116, 121, 112, 101], [114, 101, 108, 97, 116, 105, 111, 110], [99, 111, 110, 100], [111, 114], [97, 110, 100], [110, 111, 116], [102, 114, 111, 109], [119, 105, 116, 104], [105, 110], [116, 114, 117, 101], [102, 97, 108, 115, 101], [110, 97, 110], [105, 110, 102]]
theorem ref_mark_ev (s : ByteArray) : Ev (fun k => latchkeyref05_mark.f k s) (marksL.contains s.data.toList) := by
  unfold latchkeyref05_mark.f
  refine Ev.bind (Ev.const rfl) ?_
  refine (mark_loop s _ (by decide) _ 0 rfl (Nat.zero_le _)).val ?_
  simp only [marksL, List.contains_eq_any_beq, List.drop_zero, List.any_cons, List.any_nil]
  simp only [Bool.beq_comm, BEq.comm]
theorem ref_word_ev (s : ByteArray) : Ev (fun k => latchkeyref05_Word.f k s) (wordsL.contains s.data.toList) := by
  unfold latchkeyref05_Word.f
  refine Ev.bind (Ev.const rfl) ?_
  refine (word_loop s _ (by decide) _ 0 rfl (Nat.zero_le _)).val ?_
  simp only [wordsL, List.contains_eq_any_beq, List.drop_zero, List.any_cons, List.any_nil]
  simp only [Bool.beq_comm, BEq.comm]
theorem if_or (L w : List UInt8) (r : Option Bool) (b : Bool) (h : r = some b) : (if L = w then some true else r) = some (L == w || b) := by
  by_cases e : L = w
  · rw [if_pos e, e, beq_self_eq_true, Bool.true_or]
  · rw [if_neg e, h, beq_false_of_ne e, Bool.false_or]
theorem word_eq (s : ByteArray) : tokens_word.f s = some (wordsL.contains s.data.toList) := by
  unfold tokens_word.f
  rw [Lib.toList_data]
  generalize s.data.toList = L
  simp only [wordsL, List.contains_eq_any_beq, List.any_cons, List.any_nil]
  repeat refine if_or _ _ _ _ ?_
  rfl
def smallN (c : Nat) : Bool := decide (97 ≤ c) && decide (c ≤ 122)
def digitN (c : Nat) : Bool := decide (48 ≤ c) && decide (c ≤ 57)
def blankN (c : Nat) : Bool := decide (c = 32) || decide (c = 9) || decide (c = 10) || decide (c = 13)
def withinN (c : Nat) : Bool := smallN c || digitN c || decide (c = 95)
def singleN (c : Nat) : Bool := decide (c = 91 ∨ c = 93 ∨ c = 40 ∨ c = 41 ∨ c = 44 ∨ c = 58 ∨ c = 35 ∨ c = 42 ∨ c = 43 ∨ c = 45)
def bg (c : Nat) : Bool × Int × Int :=
  if smallN c = true then (true, 3, 1) else if digitN c = true then (true, 4, 1) else if c = 34 then (true, 10, 1) else if c = 47 then (true, 1, 1)
  else if c = 61 ∨ c = 60 ∨ c = 62 then (true, 14, 1) else if c = 33 then (true, 15, 1) else (blankN c || singleN c, 0, 1)
theorem ref_small (c : Nat) : latchkeyref05_small.f (c : Int) = some (smallN c) := by
  unfold latchkeyref05_small.f smallN
  by_cases h : 97 ≤ c
  · rw [if_pos (by omega)]
    by_cases h2 : c ≤ 122 <;> simp [h, h2] <;> omega
  · rw [if_neg (by omega)]; simp [h]
theorem ref_digit (c : Nat) : latchkeyref05_digit.f (c : Int) = some (digitN c) := by
  unfold latchkeyref05_digit.f digitN
  by_cases h : 48 ≤ c
  · rw [if_pos (by omega)]
    by_cases h2 : c ≤ 57 <;> simp [h, h2] <;> omega
  · rw [if_neg (by omega)]; simp [h]
theorem ref_blank (c : Nat) : latchkeyref05_blank.f (c : Int) = some (blankN c) := by
  unfold latchkeyref05_blank.f blankN
  by_cases h1 : c = 32
  · subst h1; rfl
  · by_cases h2 : c = 9
    · subst h2; rfl
    · by_cases h3 : c = 10
      · subst h3; rfl
      · rw [if_neg (by omega), if_neg (by omega), if_neg (by omega)]
        by_cases h4 : c = 13
        · subst h4; rfl
        · simp [h1, h2, h3, h4]; omega
theorem ref_within (c : Nat) : latchkeyref05_within.f (c : Int) = some (withinN c) := by
  unfold latchkeyref05_within.f withinN
  rw [ref_small, ref_digit]
  simp only [Option.bind_some]
  cases smallN c
  · cases digitN c
    · by_cases h : c = 95
      · subst h; rfl
      · simp [h]; omega
    · simp
  · simp
theorem str_one (c : Nat) (hc : c < 256) : (strOfNums [(c : Int)]).data.toList = [UInt8.ofNat c] := by
  simp [strOfNums, byteOf]
theorem single_all : ∀ c : Fin 256, c.val ≠ 47 → c.val ≠ 61 → c.val ≠ 60 → c.val ≠ 62 → marksL.contains [UInt8.ofNat c.val] = singleN c.val := by decide +kernel
theorem begin_ev (s0 s1 : Int) (c : Nat) (hc : c < 256) : Ev (fun k => latchkeyref05_machine_begin.f k s0 s1 (c : Int)) (bg c) := by
  unfold latchkeyref05_machine_begin.f bg
  refine Ev.bind (Ev.const (ref_small c)) ?_
  by_cases h1 : smallN c = true
  · rw [if_pos h1]; exact Ev.pos h1 (Ev.pure _)
  rw [if_neg h1]
  refine Ev.neg h1 (Ev.bind (Ev.const (ref_digit c)) ?_)
  by_cases h2 : digitN c = true
  · rw [if_pos h2]; exact Ev.pos h2 (Ev.pure _)
  rw [if_neg h2]
  refine Ev.neg h2 ?_
  by_cases h3 : c = 34
  · rw [if_pos h3]; exact Ev.pos (by omega) (Ev.pure _)
  rw [if_neg h3]
  refine Ev.neg (by omega) ?_
  by_cases h4 : c = 47
  · rw [if_pos h4]; exact Ev.pos (by omega) (Ev.pure _)
  rw [if_neg h4]
  refine Ev.neg (by omega) ?_
  have hj : Ev (fun k => latchkeyref05_machine_begin.j0 k (c : Int) true 0 1) (true, 14, 1) := Ev.succ (by simp only [latchkeyref05_machine_begin.j0]; exact Ev.pos (by trivial) (Ev.pure _))
  by_cases h5 : c = 61
  · rw [if_pos (.inl h5)]; exact Ev.pos (by omega) hj
  refine Ev.neg (by omega) ?_
  by_cases h6 : c = 60
  · rw [if_pos (.inr (.inl h6))]; exact Ev.pos (by omega) hj
  refine Ev.neg (by omega) ?_
  by_cases h7 : c = 62
  · rw [if_pos (.inr (.inr h7)), show ((c : Int) == 62) = true by simp; omega]; exact hj
  rw [if_neg (by omega), show ((c : Int) == 62) = false by simp; omega]
  refine Ev.succ ?_
  simp only [latchkeyref05_machine_begin.j0]
  refine Ev.neg (by simp) ?_
  by_cases h8 : c = 33
  · rw [if_pos h8]; exact Ev.pos (by omega) (Ev.pure _)
  rw [if_neg h8]
  refine Ev.neg (by omega) (Ev.bind (Ev.const (ref_blank c)) ?_)
  by_cases h9 : blankN c = true
  · rw [h9]; exact Ev.pos rfl (Ev.pure _)
  refine Ev.neg h9 (Ev.bind (ref_mark_ev _) (Ev.const ?_))
  have hs := single_all ⟨c, hc⟩ h4 h5 h6 h7
  simp only at hs
  rw [str_one c hc, hs, Bool.not_eq_true] at *
  simp [h9]
def hexOk (c : Nat) : Bool := (hexV c).isSome
def hexI (c : Nat) : Int := match hexV c with
  | some a => (a : Int)
  | none => -1
theorem ref_hex_all : ∀ c : Fin 256, latchkeyref05_hex.f 2 (c.val : Int) = some (hexI c.val) := by decide +kernel
theorem ref_hex_ev (c : Nat) (hc : c < 256) : Ev (fun k => latchkeyref05_hex.f k (c : Int)) (hexI c) := Ev.of_mono (fun k => latchkeyref05_hex.mono _ k) (ref_hex_all ⟨c, hc⟩)
def tkD (st n : Int) (c : Nat) : Bool × Int × Int :=
  if digitN c = true then (if st = 5 then (true, 6, n) else if st = 7 ∨ st = 8 then (true, 9, n) else (true, st, n))
  else if st = 4 ∧ c = 46 then (true, 5, n) else if st = 6 ∧ c = 101 then (true, 7, n) else if st = 7 ∧ c = 45 then (true, 8, n)
  else if st = 4 ∨ st = 6 ∨ st = 9 then (if smallN c = true then (false, st, n) else bg c) else (false, st, n)
def tkT (st n : Int) (c : Nat) : Bool × Int × Int :=
  if st = 10 then (decide (32 ≤ c), if c = 92 then 11 else if c = 34 then 0 else 10, n)
  else if st = 11 then (decide (c = 34 ∨ c = 92 ∨ c = 110 ∨ c = 120), if c = 120 then 12 else 10, n)
  else if st = 12 then (hexOk c, 13, n) else (hexOk c, 10, n)
def tk (st n : Int) (c : Nat) : Bool × Int × Int :=
  if st = 0 then bg c
  else if st = 1 then (if c = 47 then (true, 2, n) else bg c)
  else if st = 2 then (if c = 10 then (true, 0, n) else (true, 2, n))
  else if st = 3 then (if withinN c = true then (decide (wrap64 (n + 1) ≤ 32), 3, wrap64 (n + 1)) else bg c)
  else if st = 14 then (if c = 61 then (true, 0, n) else bg c)
  else if st = 15 then (decide (c = 61), 0, n)
  else if st = 10 ∨ st = 11 ∨ st = 12 ∨ st = 13 then tkT st n c
  else tkD st n c
theorem hexOk_dec (c : Nat) : decide (hexI c ≥ 0) = hexOk c := by
  unfold hexOk hexI
  rcases hexV c with _ | a
  · rfl
  · simp
theorem j4_ev (st n : Int) (c : Nat) (hc : c < 256) (b : Bool) : Ev (fun k => latchkeyref05_machine_digits.j4 k (c : Int) st b st n) (if b = true then (true, 8, n) else if st = 4 ∨ st = 6 ∨ st = 9 then (if smallN c = true then (false, st, n) else bg c) else (false, st, n)) := by
  refine Ev.succ ?_
  simp only [latchkeyref05_machine_digits.j4]
  cases b with
  | true => exact Ev.pos rfl (Ev.pure _)
  | false =>
    refine Ev.neg (by simp) ?_
    rw [if_neg (show ¬ (false = true) by simp)]
    have hs : Ev (fun k => (latchkeyref05_small.f (c : Int)).bind fun t => (if t = true then (some (false, st, n)) else ((latchkeyref05_machine_begin.f k st n (c : Int)).bind fun bt => (some (bt.1, bt.2.1, bt.2.2))))) (if smallN c = true then (false, st, n) else bg c) := by
      refine Ev.bind (Ev.const (ref_small c)) ?_
      by_cases h : smallN c = true
      · rw [if_pos h]; exact Ev.pos h (Ev.pure _)
      · rw [if_neg h]; exact Ev.neg h (Ev.bind (begin_ev st n c hc) (Ev.pure _))
    by_cases h4 : st = 4
    · rw [if_pos (.inl h4)]; exact Ev.pos h4 hs
    refine Ev.neg h4 ?_
    by_cases h6 : st = 6
    · rw [if_pos (.inr (.inl h6))]; exact Ev.pos h6 hs
    refine Ev.neg h6 ?_
    by_cases h9 : st = 9
    · rw [if_pos (.inr (.inr h9))]; exact Ev.pos h9 hs
    rw [if_neg (by omega)]
    exact Ev.neg h9 (Ev.pure _)
theorem j3_ev (st n : Int) (c : Nat) (hc : c < 256) (b : Bool) : Ev (fun k => latchkeyref05_machine_digits.j3 k (c : Int) st b st n) (if b = true then (true, 7, n) else if st = 7 ∧ c = 45 then (true, 8, n) else if st = 4 ∨ st = 6 ∨ st = 9 then (if smallN c = true then (false, st, n) else bg c) else (false, st, n)) := by
  refine Ev.succ ?_
  simp only [latchkeyref05_machine_digits.j3]
  cases b with
  | true => exact Ev.pos rfl (Ev.pure _)
  | false =>
    refine Ev.neg (by simp) ?_
    rw [if_neg (show ¬ (false = true) by simp)]
    by_cases h7 : st = 7
    · refine Ev.pos h7 ((j4_ev st n c hc _).val ?_)
      by_cases hc2 : c = 45
      · rw [if_pos (by simp; omega), if_pos ⟨h7, hc2⟩]
      · rw [if_neg (by simp; omega), if_neg (show ¬ (st = 7 ∧ c = 45) from fun h => hc2 h.2)]
    · refine Ev.neg h7 ((j4_ev st n c hc _).val ?_)
      rw [if_neg (by simp), if_neg (show ¬ (st = 7 ∧ c = 45) from fun h => h7 h.1)]
theorem j2_ev (st n : Int) (c : Nat) (hc : c < 256) (b : Bool) : Ev (fun k => latchkeyref05_machine_digits.j2 k (c : Int) st b st n) (if b = true then (true, 5, n) else if st = 6 ∧ c = 101 then (true, 7, n) else if st = 7 ∧ c = 45 then (true, 8, n) else if st = 4 ∨ st = 6 ∨ st = 9 then (if smallN c = true then (false, st, n) else bg c) else (false, st, n)) := by
  refine Ev.succ ?_
  simp only [latchkeyref05_machine_digits.j2]
  cases b with
  | true => exact Ev.pos rfl (Ev.pure _)
  | false =>
    refine Ev.neg (by simp) ?_
    rw [if_neg (show ¬ (false = true) by simp)]
    by_cases h7 : st = 6
    · refine Ev.pos h7 ((j3_ev st n c hc _).val ?_)
      by_cases hc2 : c = 101
      · rw [if_pos (by simp; omega), if_pos ⟨h7, hc2⟩]
      · rw [if_neg (by simp; omega), if_neg (show ¬ (st = 6 ∧ c = 101) from fun h => hc2 h.2)]
    · refine Ev.neg h7 ((j3_ev st n c hc _).val ?_)
      rw [if_neg (by simp), if_neg (show ¬ (st = 6 ∧ c = 101) from fun h => h7 h.1)]
theorem digits_ev (st n : Int) (c : Nat) (hc : c < 256) : Ev (fun k => latchkeyref05_machine_digits.f k st n (c : Int)) (tkD st n c) := by
  have nil : ∀ b : Bool, (b = true → digitN c = true ∧ (st = 7 ∨ st = 8)) → (digitN c = true → (st = 7 ∨ st = 8) → b = true) → (digitN c = true → st ≠ 5) → Ev (fun k => latchkeyref05_machine_digits.j1 k (c : Int) st b st n) (tkD st n c) := by
    intro b hb hb2 h5
    refine Ev.succ ?_
    simp only [latchkeyref05_machine_digits.j1]
    unfold tkD
    by_cases hbt : b = true
    · obtain ⟨hd, hs⟩ := hb hbt
      rw [if_pos hd, if_neg (h5 hd), if_pos hs]
      exact Ev.pos hbt (Ev.pure _)
    refine Ev.neg hbt (Ev.bind (Ev.const (ref_digit c)) ?_)
    by_cases hd : digitN c = true
    · rw [if_pos hd, if_neg (h5 hd), if_neg (fun h => hbt (hb2 hd h))]
      exact Ev.pos hd (Ev.pure _)
    rw [if_neg hd]
    refine Ev.neg hd ?_
    by_cases h4 : st = 4
    · refine Ev.pos h4 ((j2_ev st n c hc _).val ?_)
      by_cases hc2 : c = 46
      · rw [if_pos (by simp; omega), if_pos ⟨h4, hc2⟩]
      · rw [if_neg (by simp; omega), if_neg (show ¬ (st = 4 ∧ c = 46) from fun h => hc2 h.2)]
    · refine Ev.neg h4 ((j2_ev st n c hc _).val ?_)
      rw [if_neg (by simp), if_neg (show ¬ (st = 4 ∧ c = 46) from fun h => h4 h.1)]
  have j0 : ∀ b : Bool, (b = true ↔ digitN c = true ∧ st = 5) → Ev (fun k => latchkeyref05_machine_digits.j0 k (c : Int) st b st n) (tkD st n c) := by
    intro b hb
    refine Ev.succ ?_
    simp only [latchkeyref05_machine_digits.j0]
    by_cases hbt : b = true
    · obtain ⟨hd, hs⟩ := hb.1 hbt
      refine Ev.pos hbt (Ev.const ?_)
      unfold tkD
      rw [if_pos hd, if_pos hs]
    have h5 : digitN c = true → st ≠ 5 := fun hd hs => hbt (hb.2 ⟨hd, hs⟩)
    refine Ev.neg hbt (Ev.bind (Ev.const (ref_digit c)) ?_)
    by_cases hd : digitN c = true
    · refine Ev.pos hd ?_
      by_cases h7 : st = 7
      · exact Ev.pos h7 (nil true (fun _ => ⟨hd, .inl h7⟩) (fun _ _ => rfl) h5)
      · exact Ev.neg h7 (nil _ (fun h => ⟨hd, .inr (by simpa using h)⟩) (fun _ h => by rcases h with h | h; exact absurd h h7; simpa using h) h5)
    · exact Ev.neg hd (nil false (fun h => by cases h) (fun h => absurd h hd) h5)
  unfold latchkeyref05_machine_digits.f
  refine Ev.bind (Ev.const (ref_digit c)) ?_
  by_cases hd : digitN c = true
  · exact Ev.pos hd (j0 _ (by simp [hd]))
  · exact Ev.neg hd (j0 _ (by simp [hd]))
theorem text_ev (st n : Int) (c : Nat) (hc : c < 256) : Ev (fun k => latchkeyref05_machine_text.f k st n (c : Int)) (tkT st n c) := by
  unfold latchkeyref05_machine_text.f tkT
  have h32 : decide ((c : Int) ≥ 32) = decide (32 ≤ c) := by rw [decide_eq_decide]; omega
  by_cases h10 : st = 10
  · rw [if_pos h10]
    refine Ev.pos h10 ?_
    rw [h32]
    by_cases h1 : c = 34
    · refine Ev.pos (by omega) (Ev.neg (by omega) (Ev.const ?_))
      rw [if_neg (by omega), if_pos h1]
    · refine Ev.neg (by omega) ?_
      by_cases h2 : c = 92
      · refine Ev.pos (by omega) (Ev.const ?_)
        rw [if_pos h2]
      · refine Ev.neg (by omega) (Ev.const ?_)
        rw [if_neg h2, if_neg h1, h10]
  rw [if_neg h10]
  refine Ev.neg h10 ?_
  by_cases h11 : st = 11
  · rw [if_pos h11]
    refine Ev.pos h11 ?_
    by_cases h1 : c = 120
    · refine Ev.pos (by omega) (Ev.neg (by omega) (Ev.neg (by omega) (Ev.neg (by omega) (Ev.const ?_))))
      subst h1; rfl
    · refine Ev.neg (by omega) ?_
      by_cases h2 : c = 34
      · refine Ev.pos (by omega) (Ev.const ?_)
        subst h2; rfl
      refine Ev.neg (by omega) ?_
      by_cases h3 : c = 92
      · refine Ev.pos (by omega) (Ev.const ?_)
        subst h3; rfl
      refine Ev.neg (by omega) ?_
      by_cases h4 : c = 110
      · refine Ev.pos (by omega) (Ev.const ?_)
        subst h4; rfl
      refine Ev.neg (by omega) (Ev.const ?_)
      simp [h1, h2, h3, h4]; omega
  rw [if_neg h11]
  refine Ev.neg h11 ?_
  by_cases h12 : st = 12
  · rw [if_pos h12]
    refine Ev.pos h12 (Ev.bind (ref_hex_ev c hc) (Ev.const ?_))
    rw [hexOk_dec]
  · rw [if_neg h12]
    refine Ev.neg h12 (Ev.bind (ref_hex_ev c hc) (Ev.const ?_))
    rw [hexOk_dec]
theorem take_ev (st n : Int) (c : Nat) (hc : c < 256) : Ev (fun k => latchkeyref05_machine_take.f k st n (c : Int)) (tk st n c) := by
  unfold latchkeyref05_machine_take.f tk
  have hb : Ev (fun k => (latchkeyref05_machine_begin.f k st n (c : Int)).bind fun bt => (some (bt.1, bt.2.1, bt.2.2))) (bg c) := Ev.bind (begin_ev st n c hc) (Ev.pure _)
  by_cases h0 : st = 0
  · rw [if_pos h0]; exact Ev.pos h0 hb
  rw [if_neg h0]
  refine Ev.neg h0 ?_
  by_cases h1 : st = 1
  · rw [if_pos h1]
    refine Ev.pos h1 ?_
    by_cases h : c = 47
    · rw [if_pos h]; exact Ev.pos (by omega) (Ev.pure _)
    · rw [if_neg h]; exact Ev.neg (by omega) hb
  rw [if_neg h1]
  refine Ev.neg h1 ?_
  by_cases h2 : st = 2
  · rw [if_pos h2]
    refine Ev.pos h2 ?_
    by_cases h : c = 10
    · rw [if_pos h]; exact Ev.pos (by omega) (Ev.pure _)
    · rw [if_neg h]; exact Ev.neg (by omega) (Ev.const (by rw [h2]))
  rw [if_neg h2]
  refine Ev.neg h2 ?_
  by_cases h3 : st = 3
  · rw [if_pos h3]
    refine Ev.pos h3 (Ev.bind (Ev.const (ref_within c)) ?_)
    by_cases h : withinN c = true
    · rw [if_pos h]; exact Ev.pos h (Ev.const (by rw [h3]))
    · rw [if_neg h]; exact Ev.neg h hb
  rw [if_neg h3]
  refine Ev.neg h3 ?_
  by_cases h14 : st = 14
  · rw [if_pos h14]
    refine Ev.pos h14 ?_
    by_cases h : c = 61
    · rw [if_pos h]; exact Ev.pos (by omega) (Ev.pure _)
    · rw [if_neg h]; exact Ev.neg (by omega) hb
  rw [if_neg h14]
  refine Ev.neg h14 ?_
  by_cases h15 : st = 15
  · rw [if_pos h15]
    refine Ev.pos h15 (Ev.const ?_)
    by_cases h : c = 61
    · subst h; rfl
    · simp [h]; omega
  rw [if_neg h15]
  refine Ev.neg h15 ?_
  have j0 : ∀ b : Bool, (b = true ↔ (st = 10 ∨ st = 11 ∨ st = 12 ∨ st = 13)) → Ev (fun k => latchkeyref05_machine_take.j0 k (c : Int) b st n) (if st = 10 ∨ st = 11 ∨ st = 12 ∨ st = 13 then tkT st n c else tkD st n c) := by
    intro b hb
    refine Ev.succ ?_
    simp only [latchkeyref05_machine_take.j0]
    by_cases h : b = true
    · rw [if_pos (hb.1 h)]; exact Ev.pos h (Ev.bind (text_ev st n c hc) (Ev.pure _))
    · rw [if_neg (fun e => h (hb.2 e))]; exact Ev.neg h (Ev.bind (digits_ev st n c hc) (Ev.pure _))
  by_cases h10 : st = 10
  · exact Ev.pos h10 (j0 _ (by simp [h10]))
  refine Ev.neg h10 ?_
  by_cases h11 : st = 11
  · exact Ev.pos h11 (j0 _ (by simp [h11]))
  refine Ev.neg h11 ?_
  by_cases h12 : st = 12
  · exact Ev.pos h12 (j0 _ (by simp [h12]))
  exact Ev.neg h12 (j0 _ (by simp [h10, h11, h12]))
def rn : List UInt8 → Int → Int → Nat × Int × Int
  | [], st, n => (0, st, n)
  | c :: t, st, n => if (tk st n c.toNat).1 = true then ((rn t (tk st n c.toNat).2.1 (tk st n c.toNat).2.2).1 + 1, (rn t (tk st n c.toNat).2.1 (tk st n c.toNat).2.2).2) else (0, st, n)
theorem runL_ev : ∀ (L : List UInt8) (i : Nat) (st n : Int), Ev (fun k => runL k L i st n) (((i + (rn L st n).1 : Nat) : Int), (rn L st n).2)
  | [], i, st, n => Ev.pure _
  | c :: t, i, st, n => by
    unfold runL rn
    refine Ev.bind (take_ev st n c.toNat c.toNat_lt) ?_
    by_cases h : (tk st n c.toNat).1 = true
    · rw [if_pos h]
      refine Ev.pos h ((runL_ev t (i + 1) _ _).val ?_)
      simp only [Prod.mk.injEq, and_true]
      omega
    · rw [if_neg h]
      exact Ev.neg h (Ev.const (by simp))
theorem run_ev (s : ByteArray) (hs : s.size ≤ 140737488351232) : Ev (fun k => latchkeyref05_run.f k s) (((rn s.data.toList 0 0).1 : Int), (rn s.data.toList 0 0).2) := by
  unfold latchkeyref05_run.f
  refine Ev.pos hs ((runL_ev _ 0 0 0).val ?_)
  simp
def badst (st : Int) : Bool := decide (st = 5 ∨ st = 7 ∨ st = 8 ∨ st = 10 ∨ st = 11 ∨ st = 12 ∨ st = 13 ∨ st = 15)
def stop : List UInt8 → Int → Int → Option Nat
  | [], st, n => if badst st = true then some 0 else none
  | c :: t, st, n => if (tk st n c.toNat).1 = true then (stop t (tk st n c.toNat).2.1 (tk st n c.toNat).2.2).map (· + 1) else some 0
theorem stop_rn : ∀ (L : List UInt8) (st n : Int), stop L st n = if (rn L st n).1 < L.length ∨ badst (rn L st n).2.1 = true then some (rn L st n).1 else none
  | [], st, n => by simp [stop, rn]
  | c :: t, st, n => by
    unfold stop rn
    by_cases h : (tk st n c.toNat).1 = true
    · rw [if_pos h, if_pos h, stop_rn t]
      simp only [List.length_cons, Nat.add_lt_add_iff_right]
      split <;> rfl
    · rw [if_neg h, if_neg h]
      simp
abbrev stop0 (L : List UInt8) : Option Nat := stop L 0 0
theorem stop_n (L : List UInt8) (n : Int) : stop L 0 n = stop0 L := by
  cases L with
  | nil => rfl
  | cons c t => simp [stop, tk]
def sh (k : Nat) (o : Option Nat) : Option Nat := o.map (· + k)
theorem sh_sh (a b : Nat) (o : Option Nat) : sh a (sh b o) = sh (a + b) o := by cases o <;> simp [sh]; omega
theorem sh_zero (o : Option Nat) : sh 0 o = o := by cases o <;> simp [sh]
theorem stop_go {c : UInt8} {t : List UInt8} {st n st' n' : Int} (h : tk st n c.toNat = (true, st', n')) : stop (c :: t) st n = sh 1 (stop t st' n') := by
  rw [show stop (c :: t) st n = if (tk st n c.toNat).1 = true then (stop t (tk st n c.toNat).2.1 (tk st n c.toNat).2.2).map (· + 1) else some 0 from rfl, h]
  rfl
theorem stop_no {c : UInt8} {t : List UInt8} {st n st' n' : Int} (h : tk st n c.toNat = (false, st', n')) : stop (c :: t) st n = some 0 := by
  rw [show stop (c :: t) st n = if (tk st n c.toNat).1 = true then (stop t (tk st n c.toNat).2.1 (tk st n c.toNat).2.2).map (· + 1) else some 0 from rfl, h]
  rfl
theorem stop_trans {t : List UInt8} {st n : Int} (h : badst st = false) (hh : ∀ c t', t = c :: t' → tk st n c.toNat = bg c.toNat) : stop t st n = stop0 t := by
  cases t with
  | nil => simp [stop, h]; rfl
  | cons c t =>
    have := hh c t rfl
    unfold stop0 stop
    rw [this, show tk 0 0 c.toNat = bg c.toNat from rfl]
theorem rowB_within (c : UInt8) : rowB c = withinN c.toNat := by
  unfold rowB withinN smallN digitN digB
  rfl
theorem w32 {n : Int} (h0 : 0 ≤ n) (h1 : n ≤ 32) : wrap64 (n + 1) = n + 1 := w64 (by omega) (by omega)
theorem stop_row : ∀ (t : List UInt8) (n : Nat), n ≤ 32 → stop t 3 (n : Int) = if n + (t.takeWhile rowB).length ≤ 32 then sh (t.takeWhile rowB).length (stop0 (t.drop (t.takeWhile rowB).length)) else some (32 - n)
  | [], n, h => by simp [stop, sh, badst, h]
  | c :: t, n, h => by
    by_cases hr : rowB c = true
    · rw [List.takeWhile_cons_of_pos hr]
      have ht : tk 3 (n : Int) c.toNat = (decide ((n : Int) + 1 ≤ 32), 3, (n : Int) + 1) := by
        unfold tk
        rw [if_neg (by decide), if_neg (by decide), if_neg (by decide), if_pos rfl, if_pos (by rw [← rowB_within]; exact hr), w32 (by omega) (by omega)]
      by_cases h2 : n + 1 ≤ 32
      · rw [stop_go (ht.trans (by rw [decide_eq_true (by omega)])), show (n : Int) + 1 = ((n + 1 : Nat) : Int) by omega, stop_row t (n + 1) h2]
        simp only [List.length_cons, List.drop_succ_cons]
        by_cases h3 : n + 1 + (t.takeWhile rowB).length ≤ 32
        · rw [if_pos h3, if_pos (by omega), sh_sh, Nat.add_comm 1]
        · rw [if_neg h3, if_neg (by omega)]
          simp [sh]; omega
      · rw [stop_no (ht.trans (by rw [decide_eq_false (by omega)])), if_neg (by simp; omega)]
        simp; omega
    · rw [List.takeWhile_cons_of_neg hr]
      rw [if_pos (by simpa using h)]
      simp only [List.length_nil, List.drop_zero, sh_zero]
      refine stop_trans rfl ?_
      intro c' t' e
      injection e with e1 e2
      subst e1
      unfold tk
      rw [if_neg (by decide), if_neg (by decide), if_neg (by decide), if_pos rfl, if_neg (by rw [← rowB_within]; exact hr)]
theorem digB_N (c : UInt8) : digB c = digitN c.toNat := rfl
theorem tkD_of {st n : Int} {c : Nat} (h : st = 4 ∨ st = 5 ∨ st = 6 ∨ st = 7 ∨ st = 8 ∨ st = 9) : tk st n c = tkD st n c := by
  unfold tk
  rw [if_neg (by omega), if_neg (by omega), if_neg (by omega), if_neg (by omega), if_neg (by omega), if_neg (by omega), if_neg (by omega)]
theorem dl_cons_pos {c : UInt8} {t : List UInt8} (h : digB c = true) : dl (c :: t) = dl t + 1 := by unfold dl; rw [List.takeWhile_cons_of_pos h]; rfl
theorem dl_cons_neg {c : UInt8} {t : List UInt8} (h : ¬ digB c = true) : dl (c :: t) = 0 := by unfold dl; rw [List.takeWhile_cons_of_neg h]; rfl
theorem stop_digits (st n : Int) (h : st = 4 ∨ st = 6 ∨ st = 9) : ∀ (t : List UInt8), stop t st n = sh (dl t) (stop (t.drop (dl t)) st n)
  | [] => by simp [dl, sh_zero]
  | c :: t => by
    by_cases hd : digB c = true
    · rw [dl_cons_pos hd, List.drop_succ_cons, stop_go (st' := st) (n' := n), stop_digits st n h t, sh_sh, Nat.add_comm 1]
      rw [tkD_of (by omega)]
      unfold tkD
      rw [if_pos (by rw [← digB_N]; exact hd), if_neg (by omega), if_neg (by omega)]
    · rw [dl_cons_neg hd, List.drop_zero, sh_zero]
theorem stop_need (st st2 n : Int) (h : st = 5 ∧ st2 = 6 ∨ st = 7 ∧ st2 = 9 ∨ st = 8 ∧ st2 = 9) (t : List UInt8) (h7 : st = 7 → t.head? ≠ some 45) :
    stop t st n = if dl t = 0 then some 0 else sh (dl t) (stop (t.drop (dl t)) st2 n) := by
  cases t with
  | nil =>
    have : badst st = true := by unfold badst; simp; omega
    simp [dl, stop, this]
  | cons c t =>
    by_cases hd : digB c = true
    · rw [dl_cons_pos hd, if_neg (by omega), List.drop_succ_cons, stop_go (st' := st2) (n' := n), stop_digits st2 n (by omega) t, sh_sh, Nat.add_comm 1]
      rw [tkD_of (by omega)]
      unfold tkD
      rw [if_pos (by rw [← digB_N]; exact hd)]
      rcases h with ⟨rfl, rfl⟩ | ⟨rfl, rfl⟩ | ⟨rfl, rfl⟩
      · rw [if_pos rfl]
      · rw [if_neg (by decide), if_pos (by decide)]
      · rw [if_neg (by decide), if_pos (by decide)]
    · rw [dl_cons_neg hd, if_pos rfl]
      refine stop_no (st' := st) (n' := n) ?_
      rw [tkD_of (by omega)]
      unfold tkD
      have hc : st = 7 → c.toNat ≠ 45 := by
        intro e e2
        refine h7 e ?_
        rw [List.head?_cons, show c = 45 from UInt8.toNat_inj.mp e2]
      rw [if_neg (by rw [← digB_N]; exact hd), if_neg (by omega), if_neg (by omega), if_neg (fun x => hc x.1 x.2), if_neg (by omega)]
def neOf : Option UInt8 → Bool
  | none => true
  | some c => !(smallN c.toNat) && !(c.toNat == 95)
theorem numEnd_drop (L : List UInt8) (n : Nat) : numEnd L n = neOf (L.drop n).head? := by
  unfold numEnd
  rw [List.head?_drop]
  rcases L[n]? with _ | c <;> rfl
theorem bg95 : bg 95 = (false, 0, 1) := by decide
theorem stop_behind (st n : Int) (h : st = 4 ∨ st = 6 ∨ st = 9) (L : List UInt8) (m : Nat) (hd : dl (L.drop m) = 0) (h4 : st = 4 → (L.drop m).head? ≠ some 46) (h6 : st = 6 → (L.drop m).head? ≠ some 101) :
    stop (L.drop m) st n = if numEnd L m = true then stop0 (L.drop m) else some 0 := by
  rw [numEnd_drop]
  generalize L.drop m = t at hd h4 h6 ⊢
  have hb : badst st = false := by unfold badst; simp; omega
  cases t with
  | nil => simp [stop, hb]; rfl
  | cons c t =>
    have hdc : ¬ digB c = true := fun e => by rw [dl_cons_pos e] at hd; omega
    have c46 : st = 4 → c.toNat ≠ 46 := fun e e2 => h4 e (by rw [List.head?_cons, show c = 46 from UInt8.toNat_inj.mp e2])
    have c101 : st = 6 → c.toNat ≠ 101 := fun e e2 => h6 e (by rw [List.head?_cons, show c = 101 from UInt8.toNat_inj.mp e2])
    have ht : tk st n c.toNat = if smallN c.toNat = true then (false, st, n) else bg c.toNat := by
      rw [tkD_of (by omega)]
      unfold tkD
      rw [if_neg (by rw [← digB_N]; exact hdc), if_neg (fun x => c46 x.1 x.2), if_neg (fun x => c101 x.1 x.2), if_neg (by omega), if_pos h]
    rw [List.head?_cons]
    by_cases h1 : smallN c.toNat = true
    · rw [if_pos h1] at ht
      rw [stop_no ht, if_neg (by simp [neOf, h1])]
    · rw [if_neg h1] at ht
      have h1' : smallN c.toNat = false := by simpa using h1
      by_cases h2 : c.toNat = 95
      · have ht2 : tk st n c.toNat = (false, 0, 1) := by rw [ht, h2, bg95]
        rw [stop_no ht2, if_neg (by simp [neOf, h2])]
      · rw [if_pos (by simp [neOf, h1', h2])]
        refine stop_trans hb ?_
        intro c' t' e
        injection e with e1 e2
        subst e1
        exact ht
theorem head_get (L : List UInt8) (n : Nat) : (L.drop n).head? = L[n]? := by rw [List.head?_drop]
theorem drop_head {L : List UInt8} {n : Nat} {c : UInt8} (h : L[n]? = some c) : L.drop n = c :: L.drop (n + 1) := by
  obtain ⟨hn, e⟩ := List.getElem?_eq_some_iff.1 h
  rw [List.drop_eq_getElem_cons hn, e]
theorem dl_drop_dl : ∀ (t : List UInt8), dl (t.drop (dl t)) = 0
  | [] => rfl
  | c :: t => by
    by_cases hd : digB c = true
    · rw [dl_cons_pos hd, List.drop_succ_cons]; exact dl_drop_dl t
    · rw [dl_cons_neg hd, List.drop_zero, dl_cons_neg hd]
def okStop (L : List UInt8) (m : Nat) (ok : Bool) : Option Nat := if ok = true then sh m (stop0 (L.drop m)) else some m
theorem sh_end (L : List UInt8) (m : Nat) (b : Bool) : sh m (if b = true then stop0 (L.drop m) else some 0) = okStop L m b := by
  cases b <;> simp [okStop, sh]
theorem stop_number (c : UInt8) (t : List UInt8) (hd : digB c = true) : stop0 (c :: t) = okStop (c :: t) (numF (c :: t)).1 (numF (c :: t)).2.2 := by
  have hs : ∀ L : List UInt8, smallN (c.toNat) = false := by
    intro _
    have := hd
    simp [digB] at this
    unfold smallN
    simp; omega
  have h0 : tk 0 0 c.toNat = (true, 4, 1) := by
    unfold tk
    rw [if_pos rfl]
    unfold bg
    rw [if_neg (by rw [hs []]; simp), if_pos (by rw [← digB_N]; exact hd)]
  have hA : stop0 (c :: t) = sh (dl (c :: t)) (stop ((c :: t).drop (dl (c :: t))) 4 1) := by
    rw [dl_cons_pos hd, List.drop_succ_cons]
    show stop (c :: t) 0 0 = _
    rw [stop_go h0, stop_digits 4 1 (.inl rfl) t, sh_sh, Nat.add_comm 1]
  rw [hA]
  generalize c :: t = L
  clear hA h0 hs
  unfold numF
  have hd0 := dl_drop_dl L
  by_cases hp : L[dl L]? = some 46
  · rw [if_pos hp]
    have e1 : stop (L.drop (dl L)) 4 1 = sh 1 (stop (L.drop (dl L + 1)) 5 1) := by
      rw [drop_head hp]
      exact stop_go (by decide)
    rw [e1, stop_need 5 6 1 (by omega) _ (by omega), sh_sh]
    by_cases hz : dl (L.drop (dl L + 1)) = 0
    · rw [if_pos hz, if_pos hz]
      simp [okStop, sh]
    · rw [if_neg hz, if_neg hz, List.drop_drop, sh_sh]
      have hd1 := dl_drop_dl (L.drop (dl L + 1))
      rw [List.drop_drop] at hd1
      have e0 : dl L + 1 + dl (L.drop (dl L + 1)) = dl L + (1 + dl (L.drop (dl L + 1))) := by omega
      rw [e0] at hd1 ⊢
      generalize dl L + (1 + dl (L.drop (dl L + 1))) = m at hd1 ⊢
      by_cases he : L[m]? = some 101
      · rw [if_pos he]
        have e2 : stop (L.drop m) 6 1 = sh 1 (stop (L.drop (m + 1)) 7 1) := by
          rw [drop_head he]
          exact stop_go (by decide)
        rw [e2, sh_sh]
        by_cases hm : L[m + 1]? = some 45
        · rw [if_pos hm]
          have e3 : stop (L.drop (m + 1)) 7 1 = sh 1 (stop (L.drop (m + 1 + 1)) 8 1) := by
            rw [drop_head hm]
            exact stop_go (by decide)
          rw [e3, sh_sh, stop_need 8 9 1 (by omega) _ (by omega)]
          by_cases hy : dl (L.drop (m + 1 + 1)) = 0
          · rw [if_pos hy, if_pos hy]
            simp [okStop, sh]
          · rw [if_neg hy, if_neg hy, List.drop_drop, sh_sh]
            have hd2 := dl_drop_dl (L.drop (m + 1 + 1))
            rw [List.drop_drop] at hd2
            rw [stop_behind 9 1 (by omega) L _ hd2 (by omega) (by omega), sh_end]
        · rw [if_neg hm, stop_need 7 9 1 (by omega) _ (fun _ => by rw [head_get]; exact hm)]
          by_cases hy : dl (L.drop (m + 1)) = 0
          · rw [if_pos hy, if_pos hy]
            simp [okStop, sh]
          · rw [if_neg hy, if_neg hy, List.drop_drop, sh_sh]
            have hd2 := dl_drop_dl (L.drop (m + 1))
            rw [List.drop_drop] at hd2
            rw [stop_behind 9 1 (by omega) L _ hd2 (by omega) (by omega), sh_end]
      · rw [if_neg he, stop_behind 6 1 (by omega) L m hd1 (by omega) (fun _ => by rw [head_get]; exact he), sh_end]
  · rw [if_neg hp, stop_behind 4 1 (by omega) L _ hd0 (fun _ => by rw [head_get]; exact hp) (by omega), sh_end]
theorem sh_ok (T : List UInt8) (a m : Nat) (ok : Bool) : sh a (okStop (T.drop a) m ok) = okStop T (a + m) ok := by
  cases ok
  · simp [okStop, sh]; omega
  · simp only [okStop, if_pos, sh_sh, List.drop_drop]
theorem sh_ok1 (c : UInt8) (T : List UInt8) (m : Nat) (ok : Bool) : sh 1 (okStop T m ok) = okStop (c :: T) (1 + m) ok := sh_ok (c :: T) 1 m ok
theorem tkT_of {st n : Int} {c : Nat} (h : st = 10 ∨ st = 11 ∨ st = 12 ∨ st = 13) : tk st n c = tkT st n c := by
  unfold tk
  rw [if_neg (by omega), if_neg (by omega), if_neg (by omega), if_neg (by omega), if_neg (by omega), if_neg (by omega), if_pos h]
theorem tk10 (n : Int) (c : Nat) : tk 10 n c = (decide (32 ≤ c), if c = 92 then 11 else if c = 34 then 0 else 10, n) := by rw [tkT_of (by omega)]; rfl
theorem tk11 (n : Int) (c : Nat) : tk 11 n c = (decide (c = 34 ∨ c = 92 ∨ c = 110 ∨ c = 120), if c = 120 then 12 else 10, n) := by rw [tkT_of (by omega)]; rfl
theorem tk12 (n : Int) (c : Nat) : tk 12 n c = (hexOk c, 13, n) := by rw [tkT_of (by omega)]; rfl
theorem tk13 (n : Int) (c : Nat) : tk 13 n c = (hexOk c, 10, n) := by rw [tkT_of (by omega)]; rfl
theorem stop_esc (n : Int) (T : List UInt8) : stop T 11 n = if (escP T).2.2 = true then sh (escP T).2.1.toNat (stop (T.drop (escP T).2.1.toNat) 10 n) else some (escP T).2.1.toNat := by
  have key : ∀ p : Int × Int × Bool, escP T = p → stop T 11 n = if p.2.2 = true then sh p.2.1.toNat (stop (T.drop p.2.1.toNat) 10 n) else some p.2.1.toNat := by
    intro p hp
    cases T with
    | nil => subst hp; rfl
    | cons e t =>
      simp only [escP] at hp
      by_cases h1 : e.toNat = 34 ∨ e.toNat = 92
      · rw [if_pos h1] at hp
        subst hp
        rw [stop_go (st' := 10) (n' := n) (by rw [tk11, decide_eq_true (by omega), if_neg (by omega)])]
        rfl
      · rw [if_neg h1] at hp
        by_cases h2 : e.toNat = 110
        · rw [if_pos h2] at hp
          subst hp
          rw [stop_go (st' := 10) (n' := n) (by rw [tk11, decide_eq_true (by omega), if_neg (by omega)])]
          rfl
        · rw [if_neg h2] at hp
          by_cases h3 : e.toNat = 120
          · rw [if_neg (by omega)] at hp
            rw [stop_go (st' := 12) (n' := n) (by rw [tk11, decide_eq_true (by omega), if_pos h3])]
            cases t with
            | nil => subst hp; rfl
            | cons g t1 =>
              simp only at hp
              rcases hg : hexV g.toNat with _ | a
              · rw [hg] at hp
                subst hp
                rw [stop_no (st' := 13) (n' := n) (by rw [tk12, hexOk, hg]; rfl)]
                rfl
              · rw [hg] at hp
                rw [stop_go (st' := 13) (n' := n) (by rw [tk12, hexOk, hg]; rfl)]
                cases t1 with
                | nil => subst hp; rfl
                | cons g2 t2 =>
                  simp only at hp
                  rcases hg2 : hexV g2.toNat with _ | b
                  · rw [hg2] at hp
                    subst hp
                    rw [stop_no (st' := 10) (n' := n) (by rw [tk13, hexOk, hg2]; rfl)]
                    rfl
                  · rw [hg2] at hp
                    subst hp
                    rw [stop_go (st' := 10) (n' := n) (by rw [tk13, hexOk, hg2]; rfl), sh_sh, sh_sh]
                    rfl
          · rw [if_pos h3] at hp
            subst hp
            rw [stop_no (st' := 10) (n' := n) (by rw [tk11, decide_eq_false (by omega), if_neg h3])]
            rfl
  exact key _ rfl
theorem stop_text (n : Int) : ∀ (N : Nat) (T : List UInt8) (out : List Int) (i : Nat), T.length ≤ N → i ≤ (qF T out i).2.1 ∧ (qF T out i).2.1 ≤ i + T.length ∧ stop T 10 n = okStop T ((qF T out i).2.1 - i) (qF T out i).2.2 := by
  intro N
  induction N with
  | zero =>
    intro T out i hN
    obtain rfl : T = [] := List.length_eq_zero_iff.1 (by omega)
    simp [qF, okStop, stop, badst]
  | succ N ih =>
    intro T out i hN
    cases T with
    | nil => simp [qF, okStop, stop, badst]
    | cons c T =>
      have hN' : T.length ≤ N := by simp at hN; omega
      by_cases h34 : c.toNat = 34
      · rw [qF_end h34]
        refine ⟨by simp, by simp, ?_⟩
        rw [stop_go (st' := 0) (n' := n) (by rw [tk10, decide_eq_true (by omega), if_neg (by omega), if_pos h34]), stop_n]
        simp only [okStop, if_pos, show i + 1 - i = 1 by omega, List.drop_succ_cons, List.drop_zero]
      by_cases h32 : c.toNat < 32
      · rw [qF_low h34 h32]
        refine ⟨by simp, by simp, ?_⟩
        rw [stop_no (st' := 10) (n' := n) (by rw [tk10, decide_eq_false (by omega), if_neg (by omega), if_neg h34])]
        simp [okStop]
      by_cases h92 : c.toNat = 92
      · rw [qF_esc h92]
        obtain ⟨he0, he1, he2⟩ := escP_len T
        have hE := stop_esc n T
        rw [stop_go (st' := 11) (n' := n) (by rw [tk10, decide_eq_true (by omega), if_pos h92]), hE]
        generalize escP T = p at he0 he1 he2
        obtain ⟨b, m, ok⟩ := p
        simp only [escK] at he0 he1 he2 ⊢
        generalize hm : m.toNat = M at he1
        cases ok with
        | false =>
          simp only [if_neg (show ¬ (false = true) by simp)]
          refine ⟨by omega, by simp; omega, ?_⟩
          simp [okStop, sh]; omega
        | true =>
          simp only [if_pos]
          have hl : (T.drop M).length = T.length - M := List.length_drop
          obtain ⟨j1, j2, j3⟩ := ih (T.drop M) (out ++ [b]) (i + 1 + M) (by omega)
          generalize qF (T.drop M) (out ++ [b]) (i + 1 + M) = q at j1 j2 j3
          refine ⟨by omega, by simp; omega, ?_⟩
          rw [j3, sh_ok, sh_ok1 c]
          congr 1; omega
      · rw [qF_plain h34 h32 h92]
        obtain ⟨j1, j2, j3⟩ := ih T (out ++ [(c.toNat : Int)]) (i + 1) hN'
        generalize qF T (out ++ [(c.toNat : Int)]) (i + 1) = q at j1 j2 j3
        refine ⟨by omega, by simp; omega, ?_⟩
        rw [stop_go (st' := 10) (n' := n) (by rw [tk10, decide_eq_true (by omega), if_neg h92, if_neg h34]), j3, sh_ok1 c]
        congr 1; omega
def cmpN (c : Nat) : Bool := decide (c = 60 ∨ c = 62 ∨ c = 61 ∨ c = 33)
def plainN (c : Nat) : Bool := decide (c = 91 ∨ c = 93 ∨ c = 40 ∨ c = 41 ∨ c = 44 ∨ c = 58 ∨ c = 35 ∨ c = 42 ∨ c = 43 ∨ c = 45 ∨ c = 47)
def mkF : List UInt8 → Int
  | [] => 0
  | c :: T => if cmpN c.toNat = true then (if T.head? = some 61 then 2 else if c.toNat = 33 then -1 else 1) else if plainN c.toNat = true then 1 else 0
theorem mkF_cons (c : UInt8) (T : List UInt8) : mkF (c :: T) = if cmpN c.toNat = true then (if T.head? = some 61 then 2 else if c.toNat = 33 then -1 else 1) else if plainN c.toNat = true then 1 else 0 := rfl
theorem ibA : ∀ c : Fin 256, (0 ≤ Lib.indexByte [60, 62, 61, 33] ((c.val : Int).toNat.toUInt8)) = (cmpN c.val = true) := by
  intro c
  have : ∀ c : Fin 256, decide (0 ≤ Lib.indexByte [60, 62, 61, 33] ((c.val : Int).toNat.toUInt8)) = cmpN c.val := by decide +kernel
  rw [← this c]; simp
theorem ibB : ∀ c : Fin 256, (0 ≤ Lib.indexByte [91, 93, 40, 41, 44, 58, 35, 42, 43, 45, 47] ((c.val : Int).toNat.toUInt8)) = (plainN c.val = true) := by
  intro c
  have : ∀ c : Fin 256, decide (0 ≤ Lib.indexByte [91, 93, 40, 41, 44, 58, 35, 42, 43, 45, 47] ((c.val : Int).toNat.toUInt8)) = plainN c.val := by decide +kernel
  rw [← this c]; simp
theorem ib_eq1 (c : Nat) (hc : c < 256) : ∃ v, strings_IndexByte.f (⟨#[60, 62, 61, 33]⟩ : ByteArray) (c : Int) = some v ∧ (0 ≤ v ↔ cmpN c = true) :=
  ⟨_, rfl, by have := ibA ⟨c, hc⟩; exact Iff.of_eq this⟩
theorem ib_eq2 (c : Nat) (hc : c < 256) : ∃ v, strings_IndexByte.f (⟨#[91, 93, 40, 41, 44, 58, 35, 42, 43, 45, 47]⟩ : ByteArray) (c : Int) = some v ∧ (0 ≤ v ↔ plainN c = true) :=
  ⟨_, rfl, by have := ibB ⟨c, hc⟩; exact Iff.of_eq this⟩
theorem mark_ev (s : ByteArray) (c : UInt8) (T : List UInt8) (hs : s.data.toList = c :: T) : Ev (fun k => tokens_mark.f k s) (mkF (c :: T)) := by
  have hl : s.size = T.length + 1 := by rw [← len_toList, hs]; rfl
  have b0 : bt s 0 = (c.toNat : Int) := bt_cons (n := 0) hs rfl
  unfold tokens_mark.f
  refine Ev.pos (by omega) ?_
  rw [b0]
  obtain ⟨v, hv, hv2⟩ := ib_eq1 c.toNat c.toNat_lt
  obtain ⟨u, hu, hu2⟩ := ib_eq2 c.toNat c.toNat_lt
  rw [hv, hu]
  refine Ev.bind (Ev.pure _) ?_
  rw [mkF_cons]
  by_cases h1 : cmpN c.toNat = true
  · rw [if_pos h1]
    refine Ev.pos (hv2.2 h1) ?_
    have j0 : ∀ b : Bool, (b = true ↔ T.head? = some 61) → Ev (fun k => tokens_mark.j0 k s b) (if T.head? = some 61 then 2 else if c.toNat = 33 then -1 else 1) := by
      intro b hb
      refine Ev.succ ?_
      simp only [tokens_mark.j0]
      by_cases h : b = true
      · rw [if_pos (hb.1 h)]; exact Ev.pos h (Ev.pure _)
      · rw [if_neg (fun e => h (hb.2 e))]
        refine Ev.neg h (Ev.pos (by omega) ?_)
        rw [b0]
        by_cases h33 : c.toNat = 33
        · rw [if_pos h33]; exact Ev.pos (by omega) (Ev.pure _)
        · rw [if_neg h33]; exact Ev.neg (by omega) (Ev.pure _)
    cases T with
    | nil => exact Ev.neg (by simp [hl]) (j0 false (by simp))
    | cons e t =>
      have b1 : bt s 1 = (e.toNat : Int) := bt_cons (n := 1) hs rfl
      have hl2 : s.size = t.length + 2 := by rw [hl]; rfl
      refine Ev.pos (by omega) (Ev.pos (by omega) (j0 _ ?_))
      rw [b1, List.head?_cons]
      constructor
      · intro h
        have h' : e.toNat = 61 := by
          have : (e.toNat : Int) = 61 := by simpa using h
          omega
        rw [show e = 61 from UInt8.toNat_inj.mp h']
      · intro h
        injection h with h
        subst h; rfl
  · rw [if_neg h1]
    refine Ev.neg (fun h => h1 (hv2.1 h)) (Ev.bind (Ev.pure _) ?_)
    by_cases h2 : plainN c.toNat = true
    · rw [if_pos h2]; exact Ev.pos (hu2.2 h2) (Ev.pure _)
    · rw [if_neg h2]; exact Ev.neg (fun h => h2 (hu2.1 h)) (Ev.pure _)
theorem mkF_len (c : UInt8) (T : List UInt8) : -1 ≤ mkF (c :: T) ∧ mkF (c :: T) ≤ T.length + 1 := by
  simp only [mkF_cons]
  split
  · split
    · rename_i h
      cases T with
      | nil => simp at h
      | cons e t => simp; omega
    · split <;> omega
  · split <;> omega
def mkStop (v : Int) (L : List UInt8) : Option Nat := if v < 1 then some (-v).toNat else sh v.toNat (stop0 (L.drop v.toNat))
theorem stop_mark (c : UInt8) (T : List UInt8) (h1 : smallN c.toNat = false) (h2 : digB c = false) (h3 : c.toNat ≠ 34) (h4 : blankN c.toNat = false) (h5 : ¬ (c.toNat = 47 ∧ T.head? = some 47)) :
    stop0 (c :: T) = mkStop (mkF (c :: T)) (c :: T) := by
  have ht : tk 0 0 c.toNat = if c.toNat = 47 then (true, 1, 1) else if c.toNat = 61 ∨ c.toNat = 60 ∨ c.toNat = 62 then (true, 14, 1) else if c.toNat = 33 then (true, 15, 1) else (singleN c.toNat, 0, 1) := by
    show bg c.toNat = _
    unfold bg
    rw [if_neg (by simp [h1]), if_neg (by rw [← digB_N]; simp [h2]), if_neg h3, h4, Bool.false_or]
  rw [mkF_cons]
  by_cases a : c.toNat = 47
  · rw [if_pos a] at ht
    rw [if_neg (show ¬ cmpN c.toNat = true by unfold cmpN; simp; omega), if_pos (show plainN c.toNat = true by unfold plainN; simp; omega)]
    show stop (c :: T) 0 0 = _
    rw [stop_go ht]
    have : stop T 1 1 = stop0 T := by
      refine stop_trans (by decide) ?_
      intro d t' e
      unfold tk
      rw [if_neg (by decide), if_pos rfl, if_neg]
      intro hd
      refine h5 ⟨a, ?_⟩
      rw [e, List.head?_cons, show d = 47 from UInt8.toNat_inj.mp hd]
    rw [this]; rfl
  rw [if_neg a] at ht
  by_cases b : c.toNat = 61 ∨ c.toNat = 60 ∨ c.toNat = 62
  · rw [if_pos b] at ht
    rw [if_pos (show cmpN c.toNat = true by unfold cmpN; simp; omega)]
    show stop (c :: T) 0 0 = _
    rw [stop_go ht]
    by_cases he : T.head? = some 61
    · rw [if_pos he]
      cases T with
      | nil => simp at he
      | cons e t =>
        simp only [List.head?_cons, Option.some.injEq] at he
        subst he
        rw [stop_go (st' := 0) (n' := 1) (by decide), stop_n, sh_sh]; rfl
    · rw [if_neg he, if_neg (show ¬ c.toNat = 33 by omega)]
      have : stop T 14 1 = stop0 T := by
        refine stop_trans (by decide) ?_
        intro d t' e
        unfold tk
        rw [if_neg (by decide), if_neg (by decide), if_neg (by decide), if_neg (by decide), if_pos rfl, if_neg]
        intro hd
        refine he ?_
        rw [e, List.head?_cons, show d = 61 from UInt8.toNat_inj.mp hd]
      rw [this]; rfl
  rw [if_neg b] at ht
  by_cases d : c.toNat = 33
  · rw [if_pos d] at ht
    rw [if_pos (show cmpN c.toNat = true by unfold cmpN; simp; omega)]
    show stop (c :: T) 0 0 = _
    rw [stop_go ht]
    by_cases he : T.head? = some 61
    · rw [if_pos he]
      cases T with
      | nil => simp at he
      | cons e t =>
        simp only [List.head?_cons, Option.some.injEq] at he
        subst he
        rw [stop_go (st' := 0) (n' := 1) (by decide), stop_n, sh_sh]; rfl
    · rw [if_neg he, if_pos d]
      cases T with
      | nil => rfl
      | cons e t =>
        have he' : e.toNat ≠ 61 := fun h => he (by rw [List.head?_cons, show e = 61 from UInt8.toNat_inj.mp h])
        rw [stop_no (st' := 0) (n' := 1) (by unfold tk; rw [if_neg (by decide), if_neg (by decide), if_neg (by decide), if_neg (by decide), if_neg (by decide), if_pos rfl, decide_eq_false he'])]
        rfl
  rw [if_neg d] at ht
  rw [if_neg (show ¬ cmpN c.toNat = true by unfold cmpN; simp; omega)]
  by_cases f : singleN c.toNat = true
  · rw [if_pos (show plainN c.toNat = true by unfold singleN at f; unfold plainN; simp at f ⊢; omega)]
    rw [f] at ht
    show stop (c :: T) 0 0 = _
    rw [stop_go ht, stop_n]; rfl
  · rw [if_neg (show ¬ plainN c.toNat = true by unfold singleN at f; unfold plainN; simp at f ⊢; omega)]
    rw [show singleN c.toNat = false by simpa using f] at ht
    show stop (c :: T) 0 0 = _
    rw [stop_no ht]; rfl
def rl (L : List UInt8) : Nat := (L.takeWhile rowB).length
def nxm : List UInt8 → Nat × Bool
  | [] => (0, false)
  | c :: T => if smallN c.toNat = true then (if 33 ≤ rl (c :: T) then (32, false) else (rl (c :: T), true))
    else if digB c = true then ((numF (c :: T)).1, (numF (c :: T)).2.2)
    else if c.toNat = 34 then (1 + (qF T [] 0).2.1, (qF T [] 0).2.2)
    else if mkF (c :: T) < 1 then ((-(mkF (c :: T))).toNat, false) else ((mkF (c :: T)).toNat, true)
theorem nxm_cons (c : UInt8) (T : List UInt8) : nxm (c :: T) = if smallN c.toNat = true then (if 33 ≤ rl (c :: T) then (32, false) else (rl (c :: T), true))
    else if digB c = true then ((numF (c :: T)).1, (numF (c :: T)).2.2)
    else if c.toNat = 34 then (1 + (qF T [] 0).2.1, (qF T [] 0).2.2)
    else if mkF (c :: T) < 1 then ((-(mkF (c :: T))).toNat, false) else ((mkF (c :: T)).toNat, true) := rfl
theorem small_row {c : UInt8} (h : smallN c.toNat = true) : rowB c = true := by rw [rowB_within]; unfold withinN; rw [h]; rfl
theorem stop_next (c : UInt8) (T : List UInt8) (h4 : blankN c.toNat = false) (h5 : ¬ (c.toNat = 47 ∧ T.head? = some 47)) :
    stop0 (c :: T) = okStop (c :: T) (nxm (c :: T)).1 (nxm (c :: T)).2 := by
  rw [nxm_cons]
  by_cases h1 : smallN c.toNat = true
  · rw [if_pos h1]
    have hb : tk 0 0 c.toNat = (true, 3, 1) := by
      show bg c.toNat = _
      unfold bg
      rw [if_pos h1]
    have hr : rl (c :: T) = (T.takeWhile rowB).length + 1 := by unfold rl; rw [List.takeWhile_cons_of_pos (small_row h1)]; rfl
    show stop (c :: T) 0 0 = _
    rw [stop_go hb, show (1 : Int) = ((1 : Nat) : Int) from rfl, stop_row T 1 (by omega), hr]
    by_cases h : 1 + (T.takeWhile rowB).length ≤ 32
    · rw [if_pos h, if_neg (by omega), sh_sh]
      simp only [okStop, if_pos, List.drop_succ_cons]
      rw [Nat.add_comm]
    · rw [if_neg h, if_pos (by omega)]
      rfl
  rw [if_neg h1]
  have h1' : smallN c.toNat = false := by simpa using h1
  by_cases h2 : digB c = true
  · rw [if_pos h2, stop_number c T h2]
  rw [if_neg h2]
  have h2' : digB c = false := by simpa using h2
  by_cases h3 : c.toNat = 34
  · rw [if_pos h3]
    have hb : tk 0 0 c.toNat = (true, 10, 1) := by
      show bg c.toNat = _
      unfold bg
      rw [if_neg h1, if_neg (by rw [← digB_N]; exact h2), if_pos h3]
    show stop (c :: T) 0 0 = _
    rw [stop_go hb, (stop_text 1 _ T [] 0 (Nat.le_refl _)).2.2, sh_ok1 c, Nat.sub_zero]
  rw [if_neg h3, stop_mark c T h1' h2' h3 h4 h5]
  unfold mkStop
  generalize mkF (c :: T) = v
  by_cases h : v < 1
  · rw [if_pos h, if_pos h]; rfl
  · rw [if_neg h, if_neg h]; rfl
def tokF (t : ByteArray) : List UInt8 → Int × ByteArray
  | [] => (0, ⟨#[]⟩)
  | c :: T => if smallN c.toNat = true then (if wordsL.contains ((c :: T).take (rl (c :: T))) = true then 2 else 1, t.extract 0 (nxm (c :: T)).1)
    else if digB c = true then (((numF (c :: T)).2.1 : Int), t.extract 0 (nxm (c :: T)).1)
    else if c.toNat = 34 then (5, strOfNums (qF T [] 0).1)
    else (6, t.extract 0 (nxm (c :: T)).1)
theorem tokF_cons (t : ByteArray) (c : UInt8) (T : List UInt8) : tokF t (c :: T) = if smallN c.toNat = true then (if wordsL.contains ((c :: T).take (rl (c :: T))) = true then 2 else 1, t.extract 0 (nxm (c :: T)).1)
    else if digB c = true then (((numF (c :: T)).2.1 : Int), t.extract 0 (nxm (c :: T)).1)
    else if c.toNat = 34 then (5, strOfNums (qF T [] 0).1)
    else (6, t.extract 0 (nxm (c :: T)).1) := rfl
theorem bg_blank {c : Nat} (h : blankN c = true) : bg c = (true, 0, 1) := by
  have h' : c = 32 ∨ c = 9 ∨ c = 10 ∨ c = 13 := by unfold blankN at h; simp at h; omega
  rcases h' with rfl | rfl | rfl | rfl <;> decide
theorem blank_isBlank (c : UInt8) (h : ¬ c.toNat = 10) : isBlank c = blankN c.toNat := by
  unfold isBlank blankN
  simp [h]
  rfl
def pos : List UInt8 → Nat → Nat → Nat × Nat
  | [], l, col => (l, col)
  | c :: t, l, col => if c.toNat = 10 then pos t (l + 1) 1 else pos t l (col + 1)
def BlkP (L : List UInt8) (rem : Bool) (a l h : Nat) (n : Int) (r : Nat × Nat × Nat) : Prop :=
  a ≤ r.1 ∧ r.1 ≤ a + L.length ∧ r.2.2 ≤ r.1 ∧ stop L (if rem = true then 2 else 0) n = sh (r.1 - a) (stop0 (L.drop (r.1 - a))) ∧
  pos (L.take (r.1 - a)) l (a - h + 1) = (r.2.1, r.1 - r.2.2 + 1) ∧
  (r.1 < a + L.length → ∃ c T, L.drop (r.1 - a) = c :: T ∧ blankN c.toNat = false ∧ ¬ (c.toNat = 47 ∧ T.head? = some 47))
theorem stop_blk : ∀ (L : List UInt8) (rem : Bool) (a l h : Nat) (n : Int), h ≤ a → BlkP L rem a l h n (blk rem L a l h)
  | [], rem, a, l, h, n, hh => by
    refine ⟨by simp [blk], by simp [blk], by simpa [blk] using hh, ?_, by simp [blk, pos], by simp [blk]⟩
    cases rem <;> simp [blk, stop, badst, sh]
  | c :: t, rem, a, l, h, n, hh => by
    have step : ∀ (r2 : Bool) (l2 h2 : Nat) (n2 : Int), h2 ≤ a + 1 → blk rem (c :: t) a l h = blk r2 t (a + 1) l2 h2 →
        stop (c :: t) (if rem = true then 2 else 0) n = sh 1 (stop t (if r2 = true then 2 else 0) n2) →
        (∀ T, pos (c :: T) l (a - h + 1) = pos T l2 (a + 1 - h2 + 1)) → BlkP (c :: t) rem a l h n (blk rem (c :: t) a l h) := by
      intro r2 l2 h2 n2 hh2 e1 e2 e3
      obtain ⟨i1, i2, i3, i4, i5, i6⟩ := stop_blk t r2 (a + 1) l2 h2 n2 hh2
      rw [e1]
      unfold BlkP
      rw [e2]
      generalize blk r2 t (a + 1) l2 h2 = r at i1 i2 i3 i4 i5 i6
      have hk : r.1 - a = (r.1 - (a + 1)) + 1 := by omega
      rw [hk, List.drop_succ_cons, List.take_succ_cons, e3, i4, sh_sh, Nat.add_comm 1]
      simp only [List.length_cons]
      exact ⟨by omega, by omega, i3, by trivial, i5, fun hlt => i6 (by omega)⟩
    by_cases h10 : c.toNat = 10
    · refine step false (l + 1) (a + 1) (if rem = true then n else 1) (Nat.le_refl _) (by simp [blk, h10]) ?_ (fun T => ?_)
      · cases rem
        · exact stop_go (by rw [show ((if (false : Bool) = true then (2 : Int) else 0)) = 0 from rfl]; show bg c.toNat = _; rw [bg_blank (by rw [h10]; decide)]; rfl)
        · exact stop_go (by rw [h10]; rfl)
      · simp only [pos, if_pos h10]
        congr 1; omega
    by_cases hr : rem = true
    · subst hr
      refine step true l h n (by omega) (by simp [blk, h10]) ?_ (fun T => ?_)
      · refine stop_go ?_
        unfold tk
        simp [h10]
      · simp only [pos, if_neg h10]
        congr 1; omega
    have hr' : rem = false := by simpa using hr
    subst hr'
    have hib := blank_isBlank c h10
    by_cases hb : isBlank c = true
    · refine step false l h 1 (by omega) (by simp [blk, h10, hb]) ?_ (fun T => ?_)
      · refine stop_go ?_
        show bg c.toNat = _
        rw [bg_blank (by rw [← hib]; exact hb)]
        rfl
      · simp only [pos, if_neg h10]
        congr 1; omega
    have hb' : isBlank c = false := by simpa using hb
    by_cases hs : c.toNat = 47 ∧ t.head? = some 47
    · refine step true l h 1 (by omega) (by simp [blk, h10, hb', hs]) ?_ (fun T => ?_)
      · obtain ⟨hc, ht⟩ := hs
        rw [stop_go (st' := 1) (n' := 1) (by rw [hc]; rfl)]
        cases t with
        | nil => simp at ht
        | cons d t' =>
          simp only [List.head?_cons, Option.some.injEq] at ht
          subst ht
          rw [stop_go (st' := 2) (n' := 1) (by decide), if_pos rfl, stop_go (st' := 2) (n' := 1) (by decide)]
      · simp only [pos, if_neg h10]
        congr 1; omega
    · have e : blk false (c :: t) a l h = (a, l, h) := by
        unfold blk
        rw [if_neg h10, if_neg (by simp), if_neg hb, if_neg hs]
      rw [e]
      unfold BlkP
      simp only [Nat.sub_self, List.drop_zero, List.take_zero, sh_zero, pos]
      refine ⟨Nat.le_refl _, by omega, hh, ?_, by trivial, fun _ => ⟨c, t, rfl, by rw [← hib]; exact hb', hs⟩⟩
      exact stop_n _ _
def noNl (L : List UInt8) : Prop := ∀ c ∈ L, c.toNat ≠ 10
theorem noNl_nil : noNl [] := by intro c h; cases h
theorem noNl_append {A B : List UInt8} (h : noNl A) (g : noNl B) : noNl (A ++ B) := by
  intro c hc
  rcases List.mem_append.1 hc with x | x
  · exact h c x
  · exact g c x
theorem noNl_cons {c : UInt8} {A : List UInt8} (h : c.toNat ≠ 10) (g : noNl A) : noNl (c :: A) := by
  intro d hd
  rcases List.mem_cons.1 hd with rfl | x
  · exact h
  · exact g d x
theorem take_add' (L : List UInt8) (a b : Nat) : L.take (a + b) = L.take a ++ (L.drop a).take b := List.take_add
theorem noNl_add {L : List UInt8} {a b : Nat} (h : noNl (L.take a)) (g : noNl ((L.drop a).take b)) : noNl (L.take (a + b)) := by rw [take_add']; exact noNl_append h g
theorem noNl_one {L : List UInt8} {n : Nat} {c : UInt8} (h : L[n]? = some c) (hc : c.toNat ≠ 10) : noNl ((L.drop n).take 1) := by
  rw [drop_head h]
  exact noNl_cons hc noNl_nil
theorem noNl_take_while (p : UInt8 → Bool) (hp : ∀ c, p c = true → c.toNat ≠ 10) : ∀ (L : List UInt8) (n : Nat), n ≤ (L.takeWhile p).length → noNl (L.take n)
  | [], n, _ => by simp [noNl_nil]
  | c :: t, n, h => by
    by_cases hc : p c = true
    · rw [List.takeWhile_cons_of_pos hc] at h
      cases n with
      | zero => exact noNl_nil
      | succ n =>
        rw [List.take_succ_cons]
        exact noNl_cons (hp c hc) (noNl_take_while p hp t n (by simpa using h))
    · rw [List.takeWhile_cons_of_neg hc] at h
      have : n = 0 := by simpa using h
      subst this
      exact noNl_nil
theorem dig_nl (c : UInt8) (h : digB c = true) : c.toNat ≠ 10 := by unfold digB at h; simp at h; omega
theorem noNl_dl (L : List UInt8) : noNl (L.take (dl L)) := noNl_take_while digB dig_nl L _ (Nat.le_refl _)
theorem row_nl (c : UInt8) (h : rowB c = true) : c.toNat ≠ 10 := by rw [rowB_within] at h; unfold withinN smallN digitN at h; simp at h; omega
theorem num_len (L : List UInt8) : noNl (L.take (numF L).1) ∧ dl L ≤ (numF L).1 ∧ (numF L).1 ≤ L.length := by
  unfold numF
  have h0 := noNl_dl L
  have l0 := dl_le L
  by_cases hp : L[dl L]? = some 46
  · rw [if_pos hp]
    have hlt := at_lt hp
    have h1 : noNl (L.take (dl L + 1)) := noNl_add h0 (noNl_one hp (by decide))
    have l1 := dl_drop_le L (dl L + 1) (by omega)
    by_cases hz : dl (L.drop (dl L + 1)) = 0
    · rw [if_pos hz]
      exact ⟨h1, by simp, by simp; omega⟩
    · rw [if_neg hz]
      have h2 : noNl (L.take (dl L + (1 + dl (L.drop (dl L + 1))))) := by
        rw [← Nat.add_assoc]
        exact noNl_add h1 (noNl_dl _)
      have l2 : dl L + (1 + dl (L.drop (dl L + 1))) ≤ L.length := by omega
      have g0 : dl L ≤ dl L + (1 + dl (L.drop (dl L + 1))) := by omega
      generalize dl L + (1 + dl (L.drop (dl L + 1))) = m at h2 l2 g0
      by_cases he : L[m]? = some 101
      · rw [if_pos he]
        have hlt2 := at_lt he
        have h3 : noNl (L.take (m + 1)) := noNl_add h2 (noNl_one he (by decide))
        by_cases hm : L[m + 1]? = some 45
        · rw [if_pos hm]
          have hlt3 := at_lt hm
          have h4 : noNl (L.take (m + 1 + 1)) := noNl_add h3 (noNl_one hm (by decide))
          have l4 := dl_drop_le L (m + 1 + 1) (by omega)
          by_cases hy : dl (L.drop (m + 1 + 1)) = 0
          · rw [if_pos hy]
            exact ⟨h4, by simp only; omega, by simp only; omega⟩
          · rw [if_neg hy]
            exact ⟨noNl_add h4 (noNl_dl _), by simp only; omega, by simp only; omega⟩
        · rw [if_neg hm]
          have l4 := dl_drop_le L (m + 1) (by omega)
          by_cases hy : dl (L.drop (m + 1)) = 0
          · rw [if_pos hy]
            exact ⟨h3, by simp only; omega, by simp only; omega⟩
          · rw [if_neg hy]
            exact ⟨noNl_add h3 (noNl_dl _), by simp only; omega, by simp only; omega⟩
      · rw [if_neg he]
        exact ⟨h2, g0, l2⟩
  · rw [if_neg hp]
    exact ⟨h0, Nat.le_refl _, l0⟩
theorem hex_nl {c : UInt8} {a : Nat} (h : hexV c.toNat = some a) : c.toNat ≠ 10 := by
  intro e
  rw [e] at h
  cases h
theorem noNl_esc (T : List UInt8) : noNl (T.take (escP T).2.1.toNat) := by
  have key : ∀ p : Int × Int × Bool, escP T = p → noNl (T.take p.2.1.toNat) := by
    intro p hp
    cases T with
    | nil => simp [noNl_nil]
    | cons e t =>
      simp only [escP] at hp
      by_cases h1 : e.toNat = 34 ∨ e.toNat = 92
      · rw [if_pos h1] at hp
        subst hp
        exact noNl_cons (by omega) noNl_nil
      · rw [if_neg h1] at hp
        by_cases h2 : e.toNat = 110
        · rw [if_pos h2] at hp
          subst hp
          exact noNl_cons (by omega) noNl_nil
        · rw [if_neg h2] at hp
          by_cases h3 : e.toNat = 120
          · rw [if_neg (by omega)] at hp
            cases t with
            | nil => subst hp; exact noNl_cons (by omega) noNl_nil
            | cons g t1 =>
              simp only at hp
              rcases hg : hexV g.toNat with _ | a
              · rw [hg] at hp
                subst hp
                exact noNl_cons (by omega) noNl_nil
              · rw [hg] at hp
                cases t1 with
                | nil => subst hp; exact noNl_cons (by omega) (noNl_cons (hex_nl hg) noNl_nil)
                | cons g2 t2 =>
                  simp only at hp
                  rcases hg2 : hexV g2.toNat with _ | b
                  · rw [hg2] at hp
                    subst hp
                    exact noNl_cons (by omega) (noNl_cons (hex_nl hg) noNl_nil)
                  · rw [hg2] at hp
                    subst hp
                    exact noNl_cons (by omega) (noNl_cons (hex_nl hg) (noNl_cons (hex_nl hg2) noNl_nil))
          · rw [if_pos h3] at hp
            subst hp
            exact noNl_nil
  exact key _ rfl
theorem noNl_text : ∀ (N : Nat) (T : List UInt8) (out : List Int) (i : Nat), T.length ≤ N → noNl (T.take ((qF T out i).2.1 - i)) := by
  intro N
  induction N with
  | zero =>
    intro T out i hN
    obtain rfl : T = [] := List.length_eq_zero_iff.1 (by omega)
    simp [noNl_nil]
  | succ N ih =>
    intro T out i hN
    cases T with
    | nil => simp [noNl_nil]
    | cons c T =>
      have hN' : T.length ≤ N := by simp at hN; omega
      by_cases h34 : c.toNat = 34
      · rw [qF_end h34]
        simp only [show i + 1 - i = 1 by omega]
        exact noNl_cons (by omega) noNl_nil
      by_cases h32 : c.toNat < 32
      · rw [qF_low h34 h32]
        simp [noNl_nil]
      by_cases h92 : c.toNat = 92
      · rw [qF_esc h92]
        obtain ⟨he0, he1, he2⟩ := escP_len T
        have hE := noNl_esc T
        generalize escP T = p at he0 he1 he2 hE
        obtain ⟨b, m, ok⟩ := p
        simp only [escK] at he0 he1 he2 hE ⊢
        generalize m.toNat = M at he1 hE
        cases ok with
        | false =>
          simp only [if_neg (show ¬ (false = true) by simp), show i + 1 + M - i = M + 1 by omega, List.take_succ_cons]
          exact noNl_cons (by omega) hE
        | true =>
          simp only [if_pos]
          have hl : (T.drop M).length = T.length - M := List.length_drop
          have j := ih (T.drop M) (out ++ [b]) (i + 1 + M) (by omega)
          obtain ⟨j1, j2, _⟩ := stop_text 0 _ (T.drop M) (out ++ [b]) (i + 1 + M) (Nat.le_refl _)
          generalize qF (T.drop M) (out ++ [b]) (i + 1 + M) = q at j j1 j2
          rw [show q.2.1 - i = (M + (q.2.1 - (i + 1 + M))) + 1 by omega, List.take_succ_cons]
          exact noNl_cons (by omega) (noNl_add hE j)
      · rw [qF_plain h34 h32 h92]
        have j := ih T (out ++ [(c.toNat : Int)]) (i + 1) hN'
        obtain ⟨j1, j2, _⟩ := stop_text 0 _ T (out ++ [(c.toNat : Int)]) (i + 1) (Nat.le_refl _)
        generalize qF T (out ++ [(c.toNat : Int)]) (i + 1) = q at j j1 j2
        rw [show q.2.1 - i = (q.2.1 - (i + 1)) + 1 by omega, List.take_succ_cons]
        exact noNl_cons (by omega) j
theorem nxm_len (c : UInt8) (T : List UInt8) (h4 : blankN c.toNat = false) : noNl ((c :: T).take (nxm (c :: T)).1) ∧ (nxm (c :: T)).1 ≤ T.length + 1 ∧ ((nxm (c :: T)).2 = true → 1 ≤ (nxm (c :: T)).1) := by
  have hc : c.toNat ≠ 10 := by intro e; rw [e] at h4; cases h4
  rw [nxm_cons]
  by_cases h1 : smallN c.toNat = true
  · rw [if_pos h1]
    have hl : rl (c :: T) ≤ T.length + 1 := (List.takeWhile_sublist _).length_le
    have hp : 1 ≤ rl (c :: T) := by unfold rl; rw [List.takeWhile_cons_of_pos (small_row h1)]; simp
    by_cases h : 33 ≤ rl (c :: T)
    · rw [if_pos h]
      exact ⟨noNl_take_while rowB row_nl _ _ (by show 32 ≤ rl (c :: T); omega), by simp only; omega, fun e => by cases e⟩
    · rw [if_neg h]
      exact ⟨noNl_take_while rowB row_nl _ _ (Nat.le_refl _), hl, fun _ => hp⟩
  rw [if_neg h1]
  by_cases h2 : digB c = true
  · rw [if_pos h2]
    obtain ⟨n1, n2, n3⟩ := num_len (c :: T)
    rw [dl_cons_pos h2] at n2
    exact ⟨n1, n3, fun _ => by simp only; omega⟩
  rw [if_neg h2]
  by_cases h3 : c.toNat = 34
  · rw [if_pos h3]
    have j := noNl_text _ T [] 0 (Nat.le_refl _)
    obtain ⟨j1, j2, _⟩ := stop_text 0 _ T [] 0 (Nat.le_refl _)
    refine ⟨?_, by simp only; omega, fun _ => by simp only; omega⟩
    simp only [Nat.add_comm 1, List.take_succ_cons]
    exact noNl_cons hc (by simpa using j)
  rw [if_neg h3]
  obtain ⟨m1, m2⟩ := mkF_len c T
  have hm : noNl ((c :: T).take (mkF (c :: T)).toNat) := by
    rw [mkF_cons]
    have one : noNl ((c :: T).take 1) := noNl_cons hc noNl_nil
    split
    · split
      · rename_i _ h
        cases T with
        | nil => simp at h
        | cons e t =>
          simp only [List.head?_cons, Option.some.injEq] at h
          subst h
          exact noNl_cons hc (noNl_cons (by decide) noNl_nil)
      · split
        · exact noNl_nil
        · exact one
    · split
      · exact one
      · exact noNl_nil
  by_cases h : mkF (c :: T) < 1
  · rw [if_pos h]
    refine ⟨?_, by simp only; omega, fun e => by cases e⟩
    have : (-(mkF (c :: T))).toNat = 0 ∨ (-(mkF (c :: T))).toNat = 1 := by omega
    rcases this with e | e
    · simp only [e]; exact noNl_nil
    · simp only [e]; exact noNl_cons hc noNl_nil
  · rw [if_neg h]
    exact ⟨hm, by simp only; omega, fun _ => by simp only; omega⟩
theorem tk_nat {i : Nat} (h : i ≤ 4611686018427387904) : wrap64 ((i : Int) + 1) = ((i + 1 : Nat) : Int) := by rw [w64 (by omega) (by omega)]; omega
theorem drop_cons {s : ByteArray} {i : Nat} (h : i < s.size) : ∃ c T, s.data.toList.drop i = c :: T ∧ s.data.toList.drop (i + 1) = T ∧ s.data.toList[i]? = some c ∧ bt s (i : Int) = (c.toNat : Int) := by
  have hi : i < s.data.toList.length := by rw [len_toList]; exact h
  refine ⟨s.data.toList[i], s.data.toList.drop (i + 1), List.drop_eq_getElem_cons hi, rfl, List.getElem?_eq_getElem hi, bt_of (List.getElem?_eq_getElem hi)⟩
theorem drop_nil {s : ByteArray} {i : Nat} (h : ¬ i < s.size) : s.data.toList.drop i = [] := List.drop_eq_nil_of_le (by rw [len_toList]; omega)
theorem rowDigits_ev (s : ByteArray) (hs : s.size ≤ 70000) : ∀ (N i : Nat), s.size - i ≤ N → i ≤ s.size → Ev (fun k => latchkeyref05_rowDigits.l0 k s (i : Int)) ((i + dl (s.data.toList.drop i) : Nat) : Int) := by
  intro N
  induction N with
  | zero =>
    intro i hN hi
    refine Ev.succ ?_
    simp only [latchkeyref05_rowDigits.l0]
    rw [drop_nil (by omega)]
    exact Ev.neg (by omega) (Ev.const (by simp [dl]))
  | succ N ih =>
    intro i hN hi
    refine Ev.succ ?_
    simp only [latchkeyref05_rowDigits.l0]
    by_cases h : i < s.size
    · obtain ⟨c, T, e1, e2, e3, e4⟩ := drop_cons h
      refine Ev.pos (by omega) (Ev.pos (by omega) ?_)
      rw [e4, e1]
      refine Ev.bind (Ev.const (ref_digit c.toNat)) ?_
      by_cases hd : digitN c.toNat = true
      · refine Ev.pos hd ?_
        rw [tk_nat (by omega)]
        refine (ih (i + 1) (by omega) (by omega)).val ?_
        rw [e2, dl_cons_pos (c := c) hd]
        omega
      · refine Ev.neg hd (Ev.const ?_)
        rw [dl_cons_neg (c := c) hd]; simp
    · rw [drop_nil h]
      exact Ev.neg (by omega) (Ev.const (by simp [dl]))
theorem skip_ev (s : ByteArray) (hs : s.size ≤ 70000) : ∀ (N i : Nat), s.size - i ≤ N → i ≤ s.size →
    (∀ l h, Ev (fun k => latchkeyref05_skip.l0 k s (i : Int)) ((blk false (s.data.toList.drop i) i l h).1 : Int)) ∧
    (∀ l h, Ev (fun k => latchkeyref05_skip.l1 k s (i : Int)) ((blk true (s.data.toList.drop i) i l h).1 : Int)) := by
  intro N
  induction N with
  | zero =>
    intro i hN hi
    rw [drop_nil (by omega)]
    have h0 : Ev (fun k => latchkeyref05_skip.l0 k s (i : Int)) (i : Int) := by
      refine Ev.succ ?_
      simp only [latchkeyref05_skip.l0]
      exact Ev.neg (by omega) (Ev.pure _)
    refine ⟨fun l h => h0, fun l h => ?_⟩
    refine Ev.succ ?_
    simp only [latchkeyref05_skip.l1]
    exact Ev.neg (by omega) h0
  | succ N ih =>
    intro i hN hi
    by_cases h : i < s.size
    · obtain ⟨c, T, e1, e2, e3, e4⟩ := drop_cons h
      obtain ⟨ih0, ih1⟩ := ih (i + 1) (by omega) (by omega)
      rw [e2] at ih0 ih1
      have h0 : ∀ l h, Ev (fun k => latchkeyref05_skip.l0 k s (i : Int)) ((blk false (s.data.toList.drop i) i l h).1 : Int) := by
        intro l h'
        refine Ev.succ ?_
        simp only [latchkeyref05_skip.l0]
        refine Ev.pos (by omega) (Ev.pos (by omega) ?_)
        rw [e4, e1, tk_nat (by omega)]
        refine Ev.bind (Ev.const (ref_blank c.toNat)) ?_
        by_cases hb : blankN c.toNat = true
        · refine Ev.pos hb ?_
          by_cases h10 : c.toNat = 10
          · refine (ih0 (l + 1) (i + 1)).val ?_
            simp [blk, h10]
          · refine (ih0 l h').val ?_
            simp [blk, h10, blank_isBlank c h10, hb]
        · refine Ev.neg hb ?_
          have h10 : ¬ c.toNat = 10 := fun e => hb (by rw [e]; decide)
          have hib : isBlank c = false := by rw [blank_isBlank c h10]; simpa using hb
          have j1f : Ev (fun k => latchkeyref05_skip.j1 k s (i : Int) false) (i : Int) := by
            refine Ev.succ ?_
            simp only [latchkeyref05_skip.j1]
            exact Ev.neg (by simp) (Ev.pure _)
          have stay : ¬ (c.toNat = 47 ∧ T.head? = some 47) → (blk false (c :: T) i l h').1 = i := by
            intro hn
            unfold blk
            rw [if_neg h10, if_neg (by simp), if_neg (by simp [hib]), if_neg hn]
          by_cases h2 : i + 1 < s.size
          · obtain ⟨d, T2, f1, f2, f3, f4⟩ := drop_cons h2
            refine Ev.pos (by omega) ?_
            rw [f4]
            have hT : T = d :: T2 := by rw [← e2]; exact f1
            by_cases h47 : c.toNat = 47
            · refine Ev.pos (by omega) (Ev.pos (by omega) ?_)
              by_cases h47' : d.toNat = 47
              · rw [show ((d.toNat : Int) == 47) = true by simp; omega]
                refine Ev.succ ?_
                simp only [latchkeyref05_skip.j1]
                refine Ev.pos (by trivial) ?_
                refine Ev.succ ?_
                simp only [latchkeyref05_skip.l1]
                refine Ev.pos (by omega) (Ev.pos (by omega) ?_)
                rw [e4, tk_nat (by omega)]
                refine Ev.neg (by omega) ((ih1 l h').val ?_)
                have : d = 47 := UInt8.toNat_inj.mp h47'
                simp [blk, h10, hib, h47, hT, this]
              · rw [show ((d.toNat : Int) == 47) = false by simp; omega]
                refine j1f.val ?_
                rw [stay]
                rintro ⟨_, x⟩
                rw [hT, List.head?_cons] at x
                injection x with x
                rw [x] at h47'
                exact h47' rfl
            · refine Ev.neg (by omega) (j1f.val ?_)
              rw [stay (fun x => h47 x.1)]
          · refine Ev.neg (by omega) (j1f.val ?_)
            have hT : T = [] := by rw [← e2]; exact drop_nil h2
            rw [stay (by rw [hT]; simp)]
      refine ⟨h0, fun l h' => ?_⟩
      refine Ev.succ ?_
      simp only [latchkeyref05_skip.l1]
      refine Ev.pos (by omega) (Ev.pos (by omega) ?_)
      rw [e4]
      by_cases h10 : c.toNat = 10
      · refine Ev.pos (by omega) ((h0 l h').val ?_)
        rw [e1]; simp [blk, h10]
      · refine Ev.neg (by omega) ?_
        rw [tk_nat (by omega), e1]
        refine (ih1 l h').val ?_
        simp [blk, h10]
    · exact ih i (by omega) hi
theorem num_ref_ev (s : ByteArray) (hs : s.size ≤ 70000) (i : Nat) (hi : i ≤ s.size) (hok : (numF (s.data.toList.drop i)).2.2 = true) (hd : 1 ≤ dl (s.data.toList.drop i)) :
    Ev (fun k => latchkeyref05_number.f k s (i : Int)) (((i + (numF (s.data.toList.drop i)).1 : Nat) : Int), decide ((numF (s.data.toList.drop i)).2.1 = 4)) := by
  have hL : ∀ n, (s.data.toList.drop i)[n]? = s.data.toList[i + n]? := fun n => by rw [List.getElem?_drop]
  have hlen : (s.data.toList.drop i).length = s.size - i := by rw [List.length_drop, len_toList]
  have hdd : ∀ n, (s.data.toList.drop i).drop n = s.data.toList.drop (i + n) := fun n => List.drop_drop
  have rd : ∀ n, i + n ≤ s.size → Ev (fun k => latchkeyref05_rowDigits.f k s ((i + n : Nat) : Int)) ((i + (n + dl ((s.data.toList.drop i).drop n)) : Nat) : Int) := by
    intro n hn
    have := rowDigits_ev s hs _ (i + n) (Nat.le_refl _) hn
    rw [← hdd, Nat.add_assoc] at this
    exact this
  have btn : ∀ n c, (s.data.toList.drop i)[n]? = some c → bt s ((i + n : Nat) : Int) = (c.toNat : Int) := fun n c h => bt_of (by rw [← hL]; exact h)
  have get : ∀ n, i + n < s.size → ∃ c, (s.data.toList.drop i)[n]? = some c := fun n h => ⟨_, List.getElem?_eq_getElem (by rw [hlen]; omega)⟩
  generalize s.data.toList.drop i = L at *
  have l0 := dl_le L
  unfold latchkeyref05_number.f
  have r0 := rd 0 (by omega)
  rw [List.drop_zero, Nat.zero_add, Nat.add_zero] at r0
  refine Ev.bind r0 ?_
  have j1f : ∀ x : Int, Ev (fun k => latchkeyref05_number.j1 k s x false) (x, true) := by
    intro x
    refine Ev.succ ?_
    simp only [latchkeyref05_number.j1]
    exact Ev.neg (by simp) (Ev.pure _)
  have j0t : ∀ x : Int, Ev (fun k => latchkeyref05_number.j0 k s x true) (x, false) := by
    intro x
    refine Ev.succ ?_
    simp only [latchkeyref05_number.j0]
    exact Ev.pos (by trivial) (Ev.pure _)
  unfold numF at hok ⊢
  by_cases hp : L[dl L]? = some 46
  · have hlt := at_lt hp
    rw [if_pos hp] at hok ⊢
    refine Ev.neg (by omega) (Ev.pos (by omega) (Ev.pos (by omega) ?_))
    rw [btn _ _ hp, show ((((46 : UInt8).toNat : Nat) : Int) != 46) = false from rfl]
    refine Ev.succ ?_
    simp only [latchkeyref05_number.j0]
    refine Ev.neg (by simp) ?_
    rw [tk_nat (by omega), Nat.add_assoc]
    refine Ev.bind (rd (dl L + 1) (by omega)) ?_
    have l1 := dl_drop_le L (dl L + 1) (by omega)
    by_cases hz : dl (L.drop (dl L + 1)) = 0
    · rw [if_pos hz] at hok
      cases hok
    rw [if_neg hz] at hok ⊢
    have e0 : dl L + 1 + dl (L.drop (dl L + 1)) = dl L + (1 + dl (L.drop (dl L + 1))) := by omega
    rw [e0] at l1 ⊢
    generalize dl L + (1 + dl (L.drop (dl L + 1))) = m at hok l1 ⊢
    by_cases he : L[m]? = some 101
    · have hlt2 := at_lt he
      rw [if_pos he] at hok ⊢
      refine Ev.pos (by omega) (Ev.pos (by omega) ?_)
      rw [btn _ _ he, show ((((101 : UInt8).toNat : Nat) : Int) == 101) = true from rfl]
      refine Ev.succ ?_
      simp only [latchkeyref05_number.j1]
      refine Ev.pos (by trivial) ?_
      rw [tk_nat (by omega), Nat.add_assoc]
      by_cases hm : L[m + 1]? = some 45
      · have hlt3 := at_lt hm
        rw [if_pos hm] at hok ⊢
        by_cases hy : dl (L.drop (m + 1 + 1)) = 0
        · rw [if_pos hy] at hok; cases hok
        rw [if_neg hy]
        refine Ev.pos (by omega) (Ev.pos (by omega) ?_)
        rw [btn _ _ hm]
        refine Ev.pos (by decide) ?_
        rw [tk_nat (by omega), Nat.add_assoc]
        exact Ev.bind (rd (m + 1 + 1) (by omega)) (Ev.pure _)
      · rw [if_neg hm] at hok ⊢
        by_cases hy : dl (L.drop (m + 1)) = 0
        · rw [if_pos hy] at hok; cases hok
        rw [if_neg hy]
        have hlt3 : m + 1 < L.length := by
          refine Nat.lt_of_not_le fun h => hy ?_
          rw [List.drop_eq_nil_of_le h]; rfl
        obtain ⟨d, hdn⟩ := get (m + 1) (by omega)
        refine Ev.pos (by omega) (Ev.pos (by omega) ?_)
        rw [btn _ _ hdn]
        refine Ev.neg ?_ ?_
        · intro e
          refine hm ?_
          rw [hdn, show d = 45 from UInt8.toNat_inj.mp (show d.toNat = 45 by omega)]
        · exact Ev.bind (rd (m + 1) (by omega)) (Ev.pure _)
    · rw [if_neg he] at hok ⊢
      by_cases hlt2 : i + m < s.size
      · obtain ⟨d, hdn⟩ := get m hlt2
        refine Ev.pos (by omega) (Ev.pos (by omega) ?_)
        rw [btn _ _ hdn, show ((d.toNat : Int) == 101) = false from ?_]
        · exact j1f _
        · have : d.toNat ≠ 101 := fun e => he (by rw [hdn, show d = 101 from UInt8.toNat_inj.mp e])
          simp; omega
      · exact Ev.neg (by omega) (j1f _)
  · rw [if_neg hp] at hok ⊢
    by_cases hlt : i + dl L < s.size
    · obtain ⟨d, hdn⟩ := get (dl L) hlt
      refine Ev.neg (by omega) (Ev.pos (by omega) (Ev.pos (by omega) ?_))
      rw [btn _ _ hdn, show ((d.toNat : Int) != 46) = true from ?_]
      · exact j0t _
      · have : d.toNat ≠ 46 := fun e => hp (by rw [hdn, show d = 46 from UInt8.toNat_inj.mp e])
        simp; omega
    · exact Ev.pos (by omega) (j0t _)
theorem qF_shift : ∀ (N : Nat) (T : List UInt8) (out : List Int) (i j : Nat), T.length ≤ N → qF T out (i + j) = ((qF T out i).1, (qF T out i).2.1 + j, (qF T out i).2.2) := by
  intro N
  induction N with
  | zero =>
    intro T out i j hN
    obtain rfl : T = [] := List.length_eq_zero_iff.1 (by omega)
    rfl
  | succ N ih =>
    intro T out i j hN
    cases T with
    | nil => rfl
    | cons c T =>
      have hN' : T.length ≤ N := by simp at hN; omega
      by_cases h34 : c.toNat = 34
      · rw [qF_end h34, qF_end h34]; simp only [Prod.mk.injEq, and_true, true_and]; omega
      by_cases h32 : c.toNat < 32
      · rw [qF_low h34 h32, qF_low h34 h32]
      by_cases h92 : c.toNat = 92
      · rw [qF_esc h92, qF_esc h92]
        obtain ⟨he0, he1, he2⟩ := escP_len T
        generalize escP T = p at he0 he1 he2
        obtain ⟨b, m, ok⟩ := p
        simp only [escK] at he0 he1 he2 ⊢
        generalize m.toNat = M at he1
        cases ok with
        | false =>
          simp only [if_neg (show ¬ (false = true) by simp)]
          simp only [Prod.mk.injEq, and_true, true_and]; omega
        | true =>
          simp only [if_pos]
          have hl : (T.drop M).length = T.length - M := List.length_drop
          rw [show i + j + 1 + M = (i + 1 + M) + j by omega]
          exact ih _ _ _ _ (by omega)
      · rw [qF_plain h34 h32 h92, qF_plain h34 h32 h92, show i + j + 1 = (i + 1) + j by omega]
        exact ih _ _ _ _ hN'
def hex2 : List UInt8 → Int × Int × Bool
  | [] => (0, 1, false)
  | h1 :: t1 => match hexV h1.toNat with
    | none => (0, 1, false)
    | some a => match t1 with
      | [] => (0, 2, false)
      | h2 :: _ => match hexV h2.toNat with
        | none => (0, 2, false)
        | some b => ((16 * a + b : Int), 3, true)
theorem escP_x {e : UInt8} (h : e.toNat = 120) (T : List UInt8) : escP (e :: T) = hex2 T := by
  simp only [escP]
  rw [if_neg (by omega), if_neg (by omega), if_neg (by omega)]
  rfl
theorem hex2_1 {x : UInt8} (h : hexV x.toNat = none) (T : List UInt8) : hex2 (x :: T) = (0, 1, false) := by
  simp only [hex2]; rw [h]
theorem hex2_2 {x : UInt8} {a : Nat} (h : hexV x.toNat = some a) : hex2 [x] = (0, 2, false) := by
  simp only [hex2]; rw [h]
theorem hex2_3 {x y : UInt8} {a : Nat} (h : hexV x.toNat = some a) (g : hexV y.toNat = none) (T : List UInt8) : hex2 (x :: y :: T) = (0, 2, false) := by
  simp only [hex2]; rw [h]; simp only; rw [g]
theorem hex2_4 {x y : UInt8} {a b : Nat} (h : hexV x.toNat = some a) (g : hexV y.toNat = some b) (T : List UInt8) : hex2 (x :: y :: T) = ((16 * a + b : Int), 3, true) := by
  simp only [hex2]; rw [h]; simp only; rw [g]
theorem quoted_ref_ev (s : ByteArray) (hs : s.size ≤ 70000) : ∀ (N : Nat) (T : List UInt8) (i : Nat) (out : List Int), T.length ≤ N → s.data.toList.drop i = T → i ≤ s.size → out.length ≤ i → (qF T out i).2.2 = true →
    Ev (fun k => latchkeyref05_quoted.l0 k s (i : Int) out) (((qF T out i).2.1 : Int), strOfNums (qF T out i).1) := by
  intro N
  induction N with
  | zero =>
    intro T i out hN hT hi ho hok
    obtain rfl : T = [] := List.length_eq_zero_iff.1 (by omega)
    simp [qF] at hok
  | succ N ih =>
    intro T i out hN hT hi ho hok
    cases T with
    | nil => simp [qF] at hok
    | cons c T =>
      have hlt : i < s.size := by
        have := congrArg List.length hT
        rw [List.length_drop, len_toList, List.length_cons] at this
        omega
      obtain ⟨c', T', e1, e2, e3, e4⟩ := drop_cons hlt
      rw [hT] at e1
      injection e1 with f1 f2
      subst f1; subst f2
      have hN' : T.length ≤ N := by simp at hN; omega
      have hlen : T.length = s.size - (i + 1) := by rw [← e2, List.length_drop, len_toList]
      refine Ev.succ ?_
      simp only [latchkeyref05_quoted.l0]
      refine Ev.pos (by omega) (Ev.pos (by omega) ?_)
      rw [e4, tk_nat (by omega)]
      by_cases h34 : c.toNat = 34
      · rw [qF_end h34]
        exact Ev.pos (by omega) (Ev.pure _)
      refine Ev.neg (by omega) ?_
      by_cases h32 : c.toNat < 32
      · rw [qF_low h34 h32] at hok; cases hok
      by_cases h92 : c.toNat = 92
      · refine Ev.pos (by omega) ?_
        rw [qF_esc h92] at hok ⊢
        cases T with
        | nil => simp [escK, escP] at hok
        | cons e T =>
          have hlt2 : i + 1 < s.size := by simp at hlen; omega
          obtain ⟨c', T', g1, g2, g3, g4⟩ := drop_cons hlt2
          rw [e2] at g1
          injection g1 with f1 f2
          subst f1; subst f2
          refine Ev.pos (by omega) (Ev.pos (by omega) ?_)
          rw [g4, tk_nat (by omega)]
          have one : ∀ b : Int, escP (e :: T) = (b, 1, true) → Ev (fun k => latchkeyref05_quoted.l0 k s ((i + 1 + 1 : Nat) : Int) (out ++ [b])) (((escK (escP (e :: T)) (e :: T) out i).2.1 : Int), strOfNums (escK (escP (e :: T)) (e :: T) out i).1) := by
            intro b hb
            rw [hb] at hok ⊢
            have he : escK (b, 1, true) (e :: T) out i = qF T (out ++ [b]) (i + 1 + 1) := by simp [escK]
            rw [he] at hok ⊢
            exact ih T (i + 1 + 1) _ (by simp at hN'; omega) g2 (by omega) (by simp; omega) hok
          by_cases h1 : e.toNat = 34 ∨ e.toNat = 92
          · refine Ev.neg (by omega) (Ev.neg (by omega) (Ev.pos (by omega) (one _ ?_)))
            simp only [escP, if_pos h1]
          by_cases h2 : e.toNat = 110
          · refine Ev.pos (by omega) (Ev.pos (by omega) (one _ ?_))
            simp only [escP, if_neg h1, if_pos h2]
          refine Ev.neg (by omega) ?_
          by_cases h3 : e.toNat = 120
          · refine Ev.pos (by omega) ?_
            have hP : escP (e :: T) = hex2 T := escP_x h3 T
            clear one
            rw [hP] at hok ⊢
            clear hP
            cases T with
            | nil => simp [escK, hex2] at hok
            | cons x1 T =>
              have hlt3 : i + 1 + 1 < s.size := by simp at hlen; omega
              obtain ⟨c', T', k1, k2, k3, k4⟩ := drop_cons hlt3
              rw [g2] at k1
              injection k1 with f1 f2
              subst f1; subst f2
              refine Ev.pos (by omega) (Ev.pos (by omega) ?_)
              rw [k4, tk_nat (by omega)]
              rcases hx1 : hexV x1.toNat with _ | a
              · rw [hex2_1 hx1] at hok; simp [escK] at hok
              have hX1 : hexI x1.toNat = (a : Int) := by unfold hexI; rw [hx1]
              refine Ev.bind ((ref_hex_ev x1.toNat x1.toNat_lt).val hX1) ?_
              cases T with
              | nil => rw [hex2_2 hx1] at hok; simp [escK] at hok
              | cons x2 T =>
                have hlt4 : i + 1 + 1 + 1 < s.size := by simp at hlen; omega
                obtain ⟨c', T', m1, m2, m3, m4⟩ := drop_cons hlt4
                rw [k2] at m1
                injection m1 with f1 f2
                subst f1; subst f2
                refine Ev.pos (by omega) (Ev.pos (by omega) ?_)
                rw [m4]
                rcases hx2 : hexV x2.toNat with _ | b
                · rw [hex2_3 hx1 hx2] at hok; simp [escK] at hok
                rw [hex2_4 hx1 hx2] at hok ⊢
                have hX2 : hexI x2.toNat = (b : Int) := by unfold hexI; rw [hx2]
                refine Ev.bind ((ref_hex_ev x2.toNat x2.toNat_lt).val hX2) (Ev.pos (by omega) ?_)
                have ha := hexV_lt hx1
                have hb := hexV_lt hx2
                rw [w64 (x := 16 * (a : Int)) (by omega) (by omega), w64 (x := 16 * (a : Int) + b) (by omega) (by omega), show (16 * (a : Int) + b) % 256 = 16 * a + b by omega,
                  show wrap64 (((i + 1 + 1 : Nat) : Int) + 2) = ((i + 4 : Nat) : Int) by rw [w64 (by omega) (by omega)]; omega]
                have he : escK ((16 * a + b : Int), 3, true) (e :: x1 :: x2 :: T) out i = qF T (out ++ [(16 * a + b : Int)]) (i + 4) := by simp [escK]
                rw [he] at hok ⊢
                exact ih T (i + 4) _ (by simp at hN'; omega) m2 (by omega) (by simp; omega) hok
          · have hP : escP (e :: T) = (0, 0, false) := by
              simp only [escP]
              rw [if_neg h1, if_neg h2, if_pos h3]
            rw [hP] at hok
            simp [escK] at hok
      · refine Ev.neg (by omega) (Ev.pos (by omega) ?_)
        rw [qF_plain h34 h32 h92] at hok ⊢
        exact ih T (i + 1) _ hN' e2 (by omega) (by simp; omega) hok
theorem ext_data (s : ByteArray) (a b : Nat) : (s.extract a b).data.toList = (s.data.toList.drop a).take (b - a) := Lib.extract_data s a b
theorem row_loop_ev (s : ByteArray) (hs : s.size ≤ 70000) (a : Nat) (v : Nat → Int × ByteArray × Int × Int × Int)
    (hv : ∀ e : Nat, a ≤ e → e ≤ s.size → Ev (fun k => latchkeyref05_piece.j1 k s (a : Int) (e : Int)) (v e)) :
    ∀ (N i : Nat), s.size - i ≤ N → a ≤ i → i ≤ s.size → Ev (fun k => latchkeyref05_piece.l0 k s (a : Int) (i : Int)) (v (i + rl (s.data.toList.drop i))) := by
  intro N
  induction N with
  | zero =>
    intro i hN ha hi
    refine Ev.succ ?_
    simp only [latchkeyref05_piece.l0]
    rw [drop_nil (by omega)]
    exact Ev.neg (by omega) (hv i ha hi)
  | succ N ih =>
    intro i hN ha hi
    refine Ev.succ ?_
    simp only [latchkeyref05_piece.l0]
    by_cases h : i < s.size
    · obtain ⟨c, T, e1, e2, e3, e4⟩ := drop_cons h
      refine Ev.pos (by omega) (Ev.pos (by omega) ?_)
      rw [e4, e1]
      refine Ev.bind (Ev.const (ref_within c.toNat)) ?_
      by_cases hd : withinN c.toNat = true
      · refine Ev.pos hd ?_
        rw [tk_nat (by omega)]
        refine (ih (i + 1) (by omega) (by omega) (by omega)).val ?_
        unfold rl
        rw [e2, List.takeWhile_cons_of_pos (by rw [rowB_within]; exact hd)]
        simp only [List.length_cons]
        congr 1; omega
      · refine Ev.neg hd ((hv i ha hi).val ?_)
        unfold rl
        rw [List.takeWhile_cons_of_neg (by rw [rowB_within]; exact hd)]
        rfl
    · rw [drop_nil h]
      exact Ev.neg (by omega) (hv i ha hi)
theorem ext_ext (s : ByteArray) (a m : Nat) (h : a + m ≤ s.size) : (s.extract a s.size).extract 0 m = s.extract a (a + m) := by
  apply ByteArray.ext
  apply Array.toList_inj.mp
  rw [ext_data, ext_data, ext_data]
  simp only [List.drop_zero, Nat.sub_zero, List.take_take]
  congr 1; omega
theorem rl_cons {c : UInt8} (h : smallN c.toNat = true) (T : List UInt8) : rl (c :: T) = rl T + 1 := by
  unfold rl; rw [List.takeWhile_cons_of_pos (small_row h)]; rfl
theorem numF_kind (L : List UInt8) : (numF L).2.1 = 3 ∨ (numF L).2.1 = 4 := by
  unfold numF
  repeat' split
  all_goals simp
theorem beq1 (c d e : UInt8) : ([c, e] == [d]) = false := by simp
theorem beq2 (c d e f : UInt8) : ([c, e] == [d, f]) = (decide (c.toNat = d.toNat) && decide (e.toNat = f.toNat)) := by
  have h : ∀ (x n : UInt8), (x == n) = decide (x.toNat = n.toNat) := by
    intro x n
    by_cases hx : x = n
    · subst hx; simp
    · rw [beq_false_of_ne hx, decide_eq_false (fun e => hx (UInt8.toNat_inj.mp e))]
  rw [← h, ← h]
  simp
theorem mark2 (c e : UInt8) : marksL.contains [c, e] = (cmpN c.toNat && decide (e.toNat = 61)) := by
  simp only [marksL, List.contains_eq_any_beq, List.any_cons, List.any_nil, beq1, beq2, Bool.false_or, Bool.or_false]
  unfold cmpN
  simp only [show (61 : UInt8).toNat = 61 from rfl, show (33 : UInt8).toNat = 33 from rfl, show (60 : UInt8).toNat = 60 from rfl, show (62 : UInt8).toNat = 62 from rfl]
  by_cases he : e.toNat = 61
  · simp only [he, decide_true, Bool.and_true]
    by_cases a1 : c.toNat = 61 <;> by_cases a2 : c.toNat = 33 <;> by_cases a3 : c.toNat = 60 <;> by_cases a4 : c.toNat = 62 <;> simp [a1, a2, a3, a4]
  · simp [he]
set_option maxRecDepth 20000 in
theorem piece_ev (s : ByteArray) (hs : s.size ≤ 70000) (a : Nat) (c : UInt8) (T : List UInt8) (hL : s.data.toList.drop a = c :: T) (h4 : blankN c.toNat = false) (h5 : ¬ (c.toNat = 47 ∧ T.head? = some 47)) (hok : (nxm (c :: T)).2 = true) :
    Ev (fun k => latchkeyref05_piece.f k s (a : Int)) ((tokF (s.extract a s.size) (c :: T)).1, (tokF (s.extract a s.size) (c :: T)).2, 0, 0, ((a + (nxm (c :: T)).1 : Nat) : Int)) := by
  have ha : a < s.size := by
    have := congrArg List.length hL
    rw [List.length_drop, len_toList, List.length_cons] at this
    omega
  obtain ⟨c', T', e1, e2, e3, e4⟩ := drop_cons ha
  rw [hL] at e1
  injection e1 with f1 f2
  subst f1; subst f2
  have hlen : T.length = s.size - (a + 1) := by rw [← e2, List.length_drop, len_toList]
  obtain ⟨n1, n2, n3⟩ := nxm_len c T h4
  have hext : (s.extract a s.size).extract 0 (nxm (c :: T)).1 = s.extract a (a + (nxm (c :: T)).1) := ext_ext s a _ (by omega)
  unfold latchkeyref05_piece.f
  refine Ev.pos (by omega) (Ev.pos (by omega) ?_)
  rw [e4, tk_nat (by omega)]
  rw [tokF_cons, hext]
  refine Ev.bind (Ev.const (ref_small c.toNat)) ?_
  by_cases h1 : smallN c.toNat = true
  · rw [if_pos h1]
    refine Ev.pos h1 ?_
    rw [nxm_cons, if_pos h1] at hok n2 ⊢
    by_cases h : 33 ≤ rl (c :: T)
    · rw [if_pos h] at hok; cases hok
    rw [if_neg h] at n2 ⊢
    have key := row_loop_ev s hs a (fun e => (if wordsL.contains (s.extract a e).data.toList = true then (2 : Int) else 1, s.extract a e, 0, 0, (e : Int))) ?_ _ (a + 1) (Nat.le_refl _) (by omega) (by omega)
    · refine key.val ?_
      rw [e2, show a + 1 + rl T = a + rl (c :: T) by rw [rl_cons h1]; omega]
      simp only
      rw [ext_data, hL, show a + rl (c :: T) - a = rl (c :: T) by omega]
    · intro e hae hes
      refine Ev.succ ?_
      simp only [latchkeyref05_piece.j1, Int.toNat_natCast]
      refine Ev.pos (by omega) (Ev.pos (by omega) (Ev.pos (by omega) (Ev.bind (ref_word_ev _) ?_)))
      by_cases hw : wordsL.contains (s.extract a e).data.toList = true
      · refine Ev.pos hw (Ev.const ?_)
        rw [if_pos hw]
      · refine Ev.neg hw (Ev.const ?_)
        rw [if_neg hw]
  simp only [if_neg h1]
  refine Ev.bind (Ev.const (ref_digit c.toNat)) ?_
  have h1' : smallN c.toNat = false := by simpa using h1
  by_cases h2 : digB c = true
  · rw [if_pos h2]
    refine Ev.pos h2 ?_
    rw [nxm_cons, if_neg h1, if_pos h2] at hok n2 ⊢
    have hn := num_ref_ev s hs a (by omega) (by rw [hL]; exact hok) (by rw [hL, dl_cons_pos h2]; omega)
    rw [hL] at hn
    refine Ev.bind hn ?_
    simp only at n2 ⊢
    rcases numF_kind (c :: T) with hk | hk
    · rw [hk]
      refine Ev.neg (by decide) (Ev.pos (by omega) (Ev.pos (by omega) (Ev.const ?_)))
      simp only [Int.toNat_natCast]
      rfl
    · rw [hk]
      refine Ev.pos (by decide) (Ev.pos (by omega) (Ev.pos (by omega) (Ev.const ?_)))
      simp only [Int.toNat_natCast]
      rfl
  rw [if_neg h2]
  refine Ev.neg (by simpa [digB_N] using h2) ?_
  have h2' : digB c = false := by simpa using h2
  by_cases h3 : c.toNat = 34
  · rw [if_pos h3]
    refine Ev.pos (by omega) ?_
    rw [nxm_cons, if_neg h1, if_neg h2, if_pos h3] at hok n2 ⊢
    have hsh := qF_shift _ T [] 0 (a + 1) (Nat.le_refl _)
    rw [Nat.zero_add] at hsh
    have hq := quoted_ref_ev s hs _ T (a + 1) [] (Nat.le_refl _) e2 (by omega) (by simp) (by rw [hsh]; exact hok)
    rw [hsh] at hq
    unfold latchkeyref05_quoted.f
    rw [tk_nat (by omega)]
    refine Ev.bind hq (Ev.const ?_)
    simp only [Option.some.injEq, Prod.mk.injEq, true_and]
    omega
  rw [if_neg h3]
  refine Ev.neg (by omega) ?_
  rw [nxm_cons, if_neg h1, if_neg h2, if_neg h3] at hok n2 ⊢
  have hv : ¬ mkF (c :: T) < 1 := by
    intro h
    rw [if_pos h] at hok
    cases hok
  rw [if_neg hv] at n2 ⊢
  simp only at n2 ⊢
  rw [mkF_cons] at hv n2 ⊢
  have one : ∀ v : Int, v = 1 → Ev (fun _ : Nat => if (a : Int) ≤ ((a + 1 : Nat) : Int) then (if ((a + 1 : Nat) : Int) ≤ (s.size : Int) then some ((6 : Int), s.extract (a : Int).toNat ((a + 1 : Nat) : Int).toNat, (0 : Int), (0 : Int), ((a + 1 : Nat) : Int)) else none) else none) (6, s.extract a (a + v.toNat), 0, 0, ((a + v.toNat : Nat) : Int)) := by
    rintro v rfl
    exact Ev.pos (by omega) (Ev.pos (by omega) (Ev.const rfl))
  by_cases hn : a + 1 < s.size
  · obtain ⟨e, T2, g1, g2, g3, g4⟩ := drop_cons hn
    rw [e2] at g1
    subst g1
    refine Ev.pos (by omega) ?_
    rw [tk_nat (by omega)]
    refine Ev.pos (by omega) (Ev.pos (by omega) (Ev.bind (ref_mark_ev _) ?_))
    have hd : (s.extract (a : Int).toNat ((a + 1 + 1 : Nat) : Int).toNat).data.toList = [c, e] := by
      rw [ext_data, Int.toNat_natCast, Int.toNat_natCast, hL, show a + 1 + 1 - a = 2 by omega]; rfl
    rw [hd, mark2]
    by_cases hc : cmpN c.toNat = true
    · rw [if_pos hc] at hv n2 ⊢
      by_cases he : e.toNat = 61
      · have he' : e = 61 := UInt8.toNat_inj.mp he
        subst he'
        rw [if_pos (show ((61 : UInt8) :: T2).head? = some 61 from rfl)]
        refine Ev.pos (by rw [hc]; rfl) (Ev.const rfl)
      · have hx : ¬ (e :: T2).head? = some 61 := by
          intro x
          rw [List.head?_cons] at x
          injection x with x
          exact he (by rw [x]; rfl)
        rw [if_neg hx] at hv n2 ⊢
        refine Ev.neg (by simp [he]) (one _ ?_)
        split
        · rename_i h; rw [if_pos h] at hv; exact absurd (by decide) hv
        · rfl
    · rw [if_neg hc] at hv n2 ⊢
      refine Ev.neg (by simp [hc]) (one _ ?_)
      split
      · rfl
      · rename_i h; rw [if_neg h] at hv; exact absurd (by decide) hv
  · have hT : T = [] := by rw [← e2]; exact drop_nil hn
    subst hT
    refine Ev.neg (by omega) (one _ ?_)
    by_cases hc : cmpN c.toNat = true
    · rw [if_pos hc, if_neg (by simp)] at hv ⊢
      split
      · rename_i h; rw [if_pos h] at hv; exact absurd (by decide) hv
      · rfl
    · rw [if_neg hc] at hv ⊢
      split
      · rfl
      · rename_i h; rw [if_neg h] at hv; exact absurd (by decide) hv
theorem ev_ite {α : Type} {c : Prop} [Decidable c] {F G : Nat → Option α} {v u : α} (h : c → Ev F v) (g : ¬ c → Ev G u) : Ev (fun k => if c then F k else G k) (if c then v else u) := by
  by_cases hc : c
  · rw [if_pos hc]; exact Ev.pos hc (h hc)
  · rw [if_neg hc]; exact Ev.neg hc (g hc)
def finS (st : Int) : ByteArray := if st = 5 ∨ st = 7 ∨ st = 8 then ⟨#[48]⟩ else if st = 10 then ⟨#[34]⟩ else if st = 11 then ⟨#[110, 34]⟩ else if st = 12 then ⟨#[48, 48, 34]⟩ else if st = 13 then ⟨#[48, 34]⟩ else if st = 15 then ⟨#[61]⟩ else ⟨#[]⟩
theorem finish_ev (s : ByteArray) (hs : s.size ≤ 140737488351232) : Ev (fun k => latchkeyref05_Finish.f k s) (finS (rn s.data.toList 0 0).2.1) := by
  unfold latchkeyref05_Finish.f
  refine Ev.bind (run_ev s hs) ?_
  generalize (rn s.data.toList 0 0) = r
  obtain ⟨p, st, n⟩ := r
  simp only
  have j0 : ∀ b : Bool, (b = true ↔ (st = 5 ∨ st = 7 ∨ st = 8)) → Ev (fun k => latchkeyref05_Finish.j0 k st b) (finS st) := by
    intro b hb
    refine Ev.succ ?_
    simp only [latchkeyref05_Finish.j0]
    unfold finS
    by_cases h : b = true
    · rw [if_pos (hb.1 h)]; exact Ev.pos h (Ev.pure _)
    · rw [if_neg (fun e => h (hb.2 e))]
      refine Ev.neg h ?_
      exact ev_ite (fun _ => Ev.pure _) fun _ => ev_ite (fun _ => Ev.pure _) fun _ => ev_ite (fun _ => Ev.pure _) fun _ => ev_ite (fun _ => Ev.pure _) fun _ => ev_ite (fun _ => Ev.pure _) fun _ => Ev.pure _
  by_cases h5 : st = 5
  · exact Ev.pos h5 (j0 _ (by simp [h5]))
  refine Ev.neg h5 ?_
  by_cases h7 : st = 7
  · exact Ev.pos h7 (j0 _ (by simp [h7]))
  exact Ev.neg h7 (j0 _ (by simp [h5, h7]))
theorem finS_bad (st : Int) : finS st = ⟨#[]⟩ ↔ badst st = false := by
  unfold finS badst
  by_cases h1 : st = 5 ∨ st = 7 ∨ st = 8
  · rw [if_pos h1]; simp; omega
  rw [if_neg h1]
  by_cases h2 : st = 10
  · rw [if_pos h2]; simp [h2]
  rw [if_neg h2]
  by_cases h3 : st = 11
  · rw [if_pos h3]; simp [h3]
  rw [if_neg h3]
  by_cases h4 : st = 12
  · rw [if_pos h4]; simp [h4]
  rw [if_neg h4]
  by_cases h5 : st = 13
  · rw [if_pos h5]; simp [h5]
  rw [if_neg h5]
  by_cases h6 : st = 15
  · rw [if_pos h6]; simp [h6]
  rw [if_neg h6]
  simp; omega
theorem finS_list (st : Int) : ((finS st).toList != ([] : List UInt8)) = badst st := by
  have h := finS_bad st
  have key : ((finS st).toList != ([] : List UInt8)) = !decide (finS st = ⟨#[]⟩) := by
    unfold finS
    repeat' split
    all_goals decide +kernel
  rw [key]
  cases hb : badst st with
  | true => rw [hb] at h; simp; intro e; exact absurd (h.1 e) (by simp)
  | false => rw [hb] at h; simp; exact h.2 rfl
end Go.Proofs.YteedjhoffjkhmaaDoor.Q
