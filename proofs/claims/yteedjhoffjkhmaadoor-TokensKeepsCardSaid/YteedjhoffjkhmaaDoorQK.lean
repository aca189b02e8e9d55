import Derived.Test.YteedjhoffjkhmaaDoorQP
import Derived.Test.YteedjhoffjkhmaaDoorPTx6
import Derived.Test.YteedjhoffjkhmaaDoorPTx23
import Derived.Test.YteedjhoffjkhmaaDoorPTx14
namespace Go.Proofs.YteedjhoffjkhmaaDoor.Q
open Go.RowKit Go.Proofs.YteedjhoffjkhmaaDoor.PT Go.Proofs.YteedjhoffjkhmaaDoorW.PrintWords Go.Proofs.YteedjhoffjkhmaaDoorW.PrintLast Go.Proofs.YteedjhoffjkhmaaDoorW.PrintMore
set_option linter.unusedVariables false
set_option linter.unusedSimpArgs false
theorem copy_ev (l : List S37) (hw : wt l ≤ 2147483647) : Ev (fun k => latchkeyref00_CopyTokens.f k l) l := by
  have hlen := wt_len l
  unfold latchkeyref00_CopyTokens.f
  have k0 : ∀ (N i : Nat), l.length - i ≤ N → i ≤ l.length → Ev (fun k => latchkeyref00_CopyTokens.l0 k l (l.take i) (i : Int)) l := by
    intro N
    have fin : ∀ i : Nat, ¬ i < l.length → Ev (fun k => latchkeyref00_CopyTokens.l0 k l (l.take i) (i : Int)) l := by
      intro i h
      rw [List.take_of_length_le (by omega)]
      refine Ev.succ ?_
      unfold latchkeyref00_CopyTokens.l0
      exact Ev.neg (by omega) (Ev.pure _)
    induction N with
    | zero => intro i h1 h2; exact fin i (by omega)
    | succ N ih =>
      intro i h1 h2
      by_cases h : i < l.length
      rotate_left
      · exact fin i h
      obtain ⟨x, t, e1, e2, e3⟩ := ldrop_cons h
      have hn := ih (i + 1) (by omega) (by omega)
      rw [take_add1 l i x _ e1] at hn
      refine Ev.succ ?_
      unfold latchkeyref00_CopyTokens.l0
      rw [rd_at l i x t e1, tk_nat (by omega)]
      refine Ev.pos (by omega) (Ev.pos (by omega) (Ev.pos ?_ hn))
      rw [List.length_take]; omega
  have := k0 l.length 0 (by omega) (by omega)
  rw [List.take_zero] at this
  exact this
theorem qF_small : ∀ (N : Nat) (T : List UInt8) (out : List Int) (i : Nat), T.length ≤ N → (qF T out i).1.length + i ≤ out.length + (qF T out i).2.1 ∧ (qF T out i).2.1 ≤ i + T.length := by
  intro N
  induction N with
  | zero =>
    intro T out i hN
    obtain rfl : T = [] := List.length_eq_zero_iff.1 (by omega)
    simp [qF]
  | succ N ih =>
    intro T out i hN
    cases T with
    | nil => simp [qF]
    | cons c T =>
      have hN' : T.length ≤ N := by simp at hN; omega
      by_cases h34 : c.toNat = 34
      · rw [qF_end h34]; simp only [List.length_cons]; omega
      by_cases h32 : c.toNat < 32
      · rw [qF_low h34 h32]; simp only [List.length_cons, List.length_nil]; omega
      by_cases h92 : c.toNat = 92
      · rw [qF_esc h92]
        obtain ⟨he0, he1, he2⟩ := escP_len T
        generalize escP T = p at he0 he1 he2
        obtain ⟨b, m, ok⟩ := p
        simp only [escK] at he0 he1 he2 ⊢
        cases ok with
        | false =>
          simp only [if_neg (show ¬ (false = true) by simp)]
          simp only [List.length_cons, List.length_nil]; omega
        | true =>
          simp only [if_pos]
          have hl : (T.drop m.toNat).length = T.length - m.toNat := List.length_drop
          have h := ih (T.drop m.toNat) (out ++ [b]) (i + 1 + m.toNat) (by omega)
          have h1 := he2 rfl
          rw [List.length_append, List.length_singleton] at h
          simp only [List.length_cons]
          omega
      · rw [qF_plain h34 h32 h92]
        have h := ih T (out ++ [(c.toNat : Int)]) (i + 1) hN'
        rw [List.length_append, List.length_singleton] at h
        simp only [List.length_cons]
        omega
theorem extract_size (t : ByteArray) (n : Nat) : (t.extract 0 n).size ≤ n ∧ (t.extract 0 n).size ≤ t.size := by
  rw [← len_toList, ← len_toList, extract_take, List.length_take]
  omega
theorem tokF_size (t : ByteArray) (L : List UInt8) (ht : t.size = L.length) : (tokF t L).2.size ≤ (nxm L).1 ∧ (tokF t L).2.size ≤ L.length := by
  cases L with
  | nil => exact ⟨Nat.zero_le _, Nat.zero_le _⟩
  | cons c T =>
    rw [tokF_cons]
    by_cases h1 : smallN c.toNat = true
    · rw [if_pos h1]; rw [← ht]; exact extract_size _ _
    rw [if_neg h1]
    by_cases h2 : digB c = true
    · rw [if_pos h2]; rw [← ht]; exact extract_size _ _
    rw [if_neg h2]
    by_cases h3 : c.toNat = 34
    · rw [if_pos h3, nxm_cons, if_neg h1, if_neg h2, if_pos h3]
      obtain ⟨q1, q2⟩ := qF_small _ T [] 0 (Nat.le_refl _)
      have hs : (strOfNums (qF T [] 0).1).size = (qF T [] 0).1.length := strOfNums_size _
      simp only [hs, List.length_cons]
      simp only [List.length_nil] at q1
      omega
    · rw [if_neg h3]; rw [← ht]; exact extract_size _ _
theorem toksF_wt (s : ByteArray) : ∀ (f a l h : Nat), h ≤ a → wt (toksF s f a l h) ≤ 8 * f + (s.size - a)
  | 0, _, _, _, _ => by simp [toksF, wt]
  | f + 1, a, l, h, hh => by
    obtain ⟨b1, _, _, b4⟩ := blk_bounds (s.data.toList.drop a) false a l h hh
    unfold toksF
    generalize blk false (s.data.toList.drop a) a l h = B at b1 b4 ⊢
    split
    · simp only [wt]
      show 8 + 0 + 0 ≤ _
      omega
    · have ih := toksF_wt s f (B.1 + (nxm (s.data.toList.drop B.1)).1) B.2.1 B.2.2 (by omega)
      have hl : (s.data.toList.drop B.1).length = s.size - B.1 := by rw [List.length_drop, len_toList]
      have ht := tokF_size (s.extract B.1 s.size) (s.data.toList.drop B.1) (by rw [hl, ByteArray.size_extract]; omega)
      rw [hl] at ht
      simp only [wt]
      omega
theorem scanV_wt (s : ByteArray) : wt (scanV s).1 ≤ 600000 := by
  unfold scanV
  by_cases hs : 65536 < s.size
  · rw [if_pos hs]; simp [wt]
  rw [if_neg hs]
  cases h : stop0 s.data.toList with
  | none => have := toksF_wt s (s.size + 1) 0 1 0 (Nat.le_refl _); simp only; omega
  | some p => simp [wt]
end Go.Proofs.YteedjhoffjkhmaaDoor.Q
