import Derived.Test.YteedjhoffjkhmaaDoorQSw
import Derived.Test.YteedjhoffjkhmaaDoorPTx24
namespace Go.Proofs.YteedjhoffjkhmaaDoor.Q
open Go.RowKit Go.Proofs.YteedjhoffjkhmaaDoor.PT Go.Proofs.YteedjhoffjkhmaaDoorW.PrintWords Go.Proofs.YteedjhoffjkhmaaDoorW.PrintLast Go.Proofs.YteedjhoffjkhmaaDoorW.PrintMore
set_option linter.unusedVariables false
set_option linter.unusedSimpArgs false
def lexlt (a b : Nat × Nat) : Prop := a.1 < b.1 ∨ a.1 = b.1 ∧ a.2 < b.2
theorem pos_lex : ∀ (L : List UInt8) (l c : Nat), L ≠ [] → lexlt (l, c) (pos L l c)
  | [], _, _, h => absurd rfl h
  | d :: t, l, c, _ => by
    have step : lexlt (l, c) (if d.toNat = 10 then (l + 1, 1) else (l, c + 1)) := by
      unfold lexlt; split <;> simp
    have e : pos (d :: t) l c = pos t (if d.toNat = 10 then (l + 1, 1) else (l, c + 1)).1 (if d.toNat = 10 then (l + 1, 1) else (l, c + 1)).2 := by
      conv => lhs; unfold pos
      split <;> rfl
    rw [e]
    generalize (if d.toNat = 10 then (l + 1, 1) else (l, c + 1)) = q at step
    cases t with
    | nil => simpa [pos] using step
    | cons d' t' =>
      have := pos_lex (d' :: t') q.1 q.2 (by simp)
      unfold lexlt at step this ⊢
      simp only at step this ⊢
      omega
theorem rn_take : ∀ (L : List UInt8) (st n : Int), rn (L.take (rn L st n).1) st n = rn L st n
  | [], _, _ => by simp [rn]
  | c :: t, st, n => by
    by_cases h : (tk st n c.toNat).1 = true
    · have ih := rn_take t (tk st n c.toNat).2.1 (tk st n c.toNat).2.2
      have e : rn (c :: t) st n = ((rn t (tk st n c.toNat).2.1 (tk st n c.toNat).2.2).1 + 1, (rn t (tk st n c.toNat).2.1 (tk st n c.toNat).2.2).2) := by
        conv => lhs; unfold rn
        rw [if_pos h]
      rw [e]
      simp only [List.take_succ_cons]
      conv => lhs; unfold rn
      rw [if_pos h, ih]
    · have e : rn (c :: t) st n = (0, st, n) := by
        conv => lhs; unfold rn
        rw [if_neg h]
      rw [e]; simp [rn]
theorem stop_append : ∀ (A B : List UInt8) (st n : Int), (rn A st n).1 = A.length → stop (A ++ B) st n = sh A.length (stop B (rn A st n).2.1 (rn A st n).2.2)
  | [], B, st, n, _ => by simp [rn, sh_zero]
  | c :: t, B, st, n, h => by
    unfold rn at h ⊢
    by_cases hk : (tk st n c.toNat).1 = true
    · rw [if_pos hk] at h ⊢
      simp only [List.length_cons] at h ⊢
      have ih := stop_append t B (tk st n c.toNat).2.1 (tk st n c.toNat).2.2 (by omega)
      rw [List.cons_append, stop_go (st' := (tk st n c.toNat).2.1) (n' := (tk st n c.toNat).2.2) (by rw [← hk]), ih, sh_sh, Nat.add_comm 1]
    · rw [if_neg hk] at h; simp at h
theorem stop_fin (st n : Int) : stop (finS st).data.toList st n = none := by
  unfold finS
  by_cases h1 : st = 5 ∨ st = 7 ∨ st = 8
  · rw [if_pos h1]; rcases h1 with rfl | rfl | rfl <;> rfl
  rw [if_neg h1]
  by_cases h2 : st = 10
  · rw [if_pos h2]; subst h2; rfl
  rw [if_neg h2]
  by_cases h3 : st = 11
  · rw [if_pos h3]; subst h3; rfl
  rw [if_neg h3]
  by_cases h4 : st = 12
  · rw [if_pos h4]; subst h4; rfl
  rw [if_neg h4]
  by_cases h5 : st = 13
  · rw [if_pos h5]; subst h5; rfl
  rw [if_neg h5]
  by_cases h6 : st = 15
  · rw [if_pos h6]; subst h6; rfl
  rw [if_neg h6]
  have hb : badst st = false := by unfold badst; simp; omega
  simp [stop, hb]
theorem stop_cut : ∀ (L t : List UInt8) (st n : Int) (p : Nat), stop L st n = some p → p < L.length → stop (L.take (p + 1) ++ t) st n = some p
  | [], t, st, n, p, _, h => by simp at h
  | c :: T, t, st, n, p, h, hp => by
    by_cases hk : (tk st n c.toNat).1 = true
    · have e : tk st n c.toNat = (true, (tk st n c.toNat).2.1, (tk st n c.toNat).2.2) := by rw [← hk]
      rw [stop_go e] at h
      cases hh : stop T (tk st n c.toNat).2.1 (tk st n c.toNat).2.2 with
      | none => rw [hh] at h; cases h
      | some q =>
        rw [hh] at h
        simp only [sh, Option.map_some, Option.some.injEq] at h
        subst h
        have ih := stop_cut T t _ _ q hh (by simpa using hp)
        rw [List.take_succ_cons, List.cons_append, stop_go e, ih]
        rfl
    · have e : tk st n c.toNat = (false, (tk st n c.toNat).2.1, (tk st n c.toNat).2.2) := by
        have : (tk st n c.toNat).1 = false := by simpa using hk
        rw [← this]
      rw [stop_no e] at h
      obtain rfl := Option.some.inj h
      simp only [List.take_succ_cons, List.cons_append]
      rw [stop_no e]
theorem scanV_good {s : ByteArray} (hs : s.size ≤ 65536) (h : stop0 s.data.toList = none) : scanV s = (toksF s (s.size + 1) 0 1 0, 0, 0, 0) := by
  unfold scanV; rw [if_neg (by omega), h]
theorem scanV_bad {s : ByteArray} {p : Nat} (hs : s.size ≤ 65536) (h : stop0 s.data.toList = some p) : scanV s = ([], 50, ((pos (s.data.toList.take p) 1 1).1 : Int), ((pos (s.data.toList.take p) 1 1).2 : Int)) := by
  unfold scanV; rw [if_neg (by omega), h]
theorem toksF_pos (s : ByteArray) (f a l h : Nat) : 0 < (toksF s (f + 1) a l h).length := by
  unfold toksF; split <;> simp
theorem ext0 (s : ByteArray) (p : Nat) : (s.extract 0 p).data.toList = s.data.toList.take p := by rw [ext_data]; simp
theorem app_data (a b : ByteArray) : (a ++ b).data.toList = a.data.toList ++ b.data.toList := by simp
theorem finS_size (st : Int) : (finS st).size ≤ 3 := by
  unfold finS
  repeat' split
  all_goals decide +kernel
theorem begins_loop (s t : ByteArray) (hs : s.size ≤ 65536) (p : Nat) (hp : p ≤ s.size)
    (hj : Ev (fun k => latchkeylaw05_TokensBegins.j2 k s t (p : Int) false 50 ((pos (s.data.toList.take p) 1 1).1 : Int) ((pos (s.data.toList.take p) 1 1).2 : Int)) true) :
    ∀ (N i : Nat), p - i ≤ N → i ≤ p →
    Ev (fun k => latchkeylaw05_TokensBegins.l0 k s t ([] : List S37) (i : Int) ((pos (s.data.toList.take i) 1 1).1 : Int) ((pos (s.data.toList.take i) 1 1).2 : Int) 50 ((pos (s.data.toList.take p) 1 1).1 : Int) ((pos (s.data.toList.take p) 1 1).2 : Int)) true := by
  have hEnd : Ev (fun k => latchkeylaw05_TokensBegins.l0 k s t ([] : List S37) (p : Int) ((pos (s.data.toList.take p) 1 1).1 : Int) ((pos (s.data.toList.take p) 1 1).2 : Int) 50 ((pos (s.data.toList.take p) 1 1).1 : Int) ((pos (s.data.toList.take p) 1 1).2 : Int)) true := by
    have hjj : Ev (fun k => latchkeylaw05_TokensBegins.j1 k s t ([] : List S37) (p : Int) ((pos (s.data.toList.take p) 1 1).1 : Int) ((pos (s.data.toList.take p) 1 1).2 : Int) false 50 ((pos (s.data.toList.take p) 1 1).1 : Int) ((pos (s.data.toList.take p) 1 1).2 : Int)) true := by
      refine Ev.succ ?_
      unfold latchkeylaw05_TokensBegins.j1
      exact Ev.neg (by simp) (Ev.pos rfl (Ev.pos rfl (Ev.pos rfl hj)))
    refine Ev.succ ?_
    unfold latchkeylaw05_TokensBegins.l0
    by_cases h : p < s.size
    · refine Ev.pos (by omega) (Ev.neg (by omega) (Ev.pos rfl ?_))
      simpa using hjj
    · exact Ev.neg (by omega) hjj
  intro N
  induction N with
  | zero => intro i h1 h2; obtain rfl : i = p := by omega
            exact hEnd
  | succ N ih =>
    intro i h1 h2
    by_cases h3 : i = p
    · subst h3; exact hEnd
    obtain ⟨c, T, d1, d2, d3, d4⟩ := drop_cons (s := s) (i := i) (by omega)
    have hx := ih (i + 1) (by omega) (by omega)
    have ht : s.data.toList.take (i + 1) = s.data.toList.take i ++ [c] := by rw [take_add', d1]; rfl
    have hlex := pos_lex ((s.data.toList.drop i).take (p - i)) (pos (s.data.toList.take i) 1 1).1 (pos (s.data.toList.take i) 1 1).2 (by
      intro e
      have := congrArg List.length e
      rw [List.length_take, List.length_drop, len_toList] at this
      simp at this; omega)
    rw [← pos_append, ← take_add', show i + (p - i) = p by omega] at hlex
    have hle := pos_le (s.data.toList.take i) 1 1
    rw [List.length_take, len_toList] at hle
    rw [ht, pos_append] at hx
    generalize pos (s.data.toList.take i) 1 1 = A at hx hlex hle ⊢
    obtain ⟨l, col⟩ := A
    generalize pos (s.data.toList.take p) 1 1 = B at hx hlex ⊢
    obtain ⟨l2, col2⟩ := B
    unfold lexlt at hlex
    simp only at hx hlex hle ⊢
    have hj1 : Ev (fun k => latchkeylaw05_TokensBegins.j1 k s t ([] : List S37) (i : Int) (l : Int) (col : Int) true 50 (l2 : Int) (col2 : Int)) true := by
      refine Ev.succ ?_
      unfold latchkeylaw05_TokensBegins.j1
      refine Ev.pos rfl (Ev.pos (by omega) (Ev.pos (by omega) ?_))
      rw [d4, tk_nat (by omega)]
      unfold pos at hx
      by_cases h10 : c.toNat = 10
      · refine Ev.pos (by omega) ?_
        rw [tk_nat (by omega)]
        simpa [h10, pos] using hx
      · refine Ev.neg (by omega) ?_
        rw [tk_nat (by omega)]
        simpa [h10, pos] using hx
    refine Ev.succ ?_
    unfold latchkeylaw05_TokensBegins.l0
    refine Ev.pos (by omega) ?_
    by_cases h4 : l < l2
    · exact Ev.pos (by omega) hj1
    · refine Ev.neg (by omega) (Ev.pos (by omega) ?_)
      simp only [show decide ((col : Int) < (col2 : Int)) = true by simp; omega]
      exact hj1
theorem begins_j3 (s t : ByteArray) (hs : s.size ≤ 65536) (ht : t.size ≤ 140737488351232) (p : Nat) (hp : p ≤ s.size) (hst : stop0 s.data.toList = some p) :
    Ev (fun k => latchkeylaw05_TokensBegins.j3 k s t (p : Int) false 50 ((pos (s.data.toList.take p) 1 1).1 : Int) ((pos (s.data.toList.take p) 1 1).2 : Int)) true := by
  refine Ev.succ ?_
  unfold latchkeylaw05_TokensBegins.j3
  refine Ev.neg (by simp) ?_
  by_cases h1 : p = s.size
  · exact Ev.pos (by omega) (Ev.pure _)
  refine Ev.neg (by omega) ?_
  rw [tk_nat (by omega), w64 (x := ((p + 1 : Nat) : Int) + (t.size : Int)) (by omega) (by omega)]
  by_cases h2 : p + 1 + t.size > 65536
  · exact Ev.pos (by omega) (Ev.pure _)
  refine Ev.neg (by omega) (Ev.pos (by omega) (Ev.pos (by omega) ?_))
  have hsz : (s.extract 0 (p + 1)).size = p + 1 := by rw [ByteArray.size_extract]; omega
  rw [show (((p + 1 : Nat) : Int)).toNat = p + 1 by omega]
  refine Ev.pos (by rw [hsz]; omega) ?_
  have hz : (s.extract 0 (p + 1) ++ t).size ≤ 65536 := by rw [ByteArray.size_append, hsz]; omega
  have hL : (s.extract 0 (p + 1) ++ t).data.toList = s.data.toList.take (p + 1) ++ t.data.toList := by rw [app_data, ext0]
  have hcut : stop0 (s.extract 0 (p + 1) ++ t).data.toList = some p := by
    rw [hL]; exact stop_cut _ _ 0 0 p hst (by rw [len_toList]; omega)
  have hv := tokscan_ev (s.extract 0 (p + 1) ++ t)
  rw [scanV_bad hz hcut, hL, List.take_append_of_le_length (by rw [List.length_take, len_toList]; omega), List.take_take, show min p (p + 1) = p by omega] at hv
  refine Ev.bind hv ?_
  exact Ev.pos rfl (Ev.const (by simp))
theorem begins_j2 (s t : ByteArray) (hs : s.size ≤ 65536) (ht : t.size ≤ 140737488351232) (p : Nat) (hp : p ≤ s.size) (hst : stop0 s.data.toList = some p) (hr : (rn s.data.toList 0 0).1 = p) :
    Ev (fun k => latchkeylaw05_TokensBegins.j2 k s t (p : Int) false 50 ((pos (s.data.toList.take p) 1 1).1 : Int) ((pos (s.data.toList.take p) 1 1).2 : Int)) true := by
  refine Ev.succ ?_
  unfold latchkeylaw05_TokensBegins.j2
  refine Ev.neg (by simp) (Ev.pos (by omega) (Ev.pos (by omega) ?_))
  rw [show ((p : Int)).toNat = p by omega]
  have hsz : (s.extract 0 p).size = p := by rw [ByteArray.size_extract]; omega
  have hf := finish_ev (s.extract 0 p) (by omega)
  have hrt := rn_take s.data.toList 0 0
  rw [hr] at hrt
  rw [ext0, hrt] at hf
  refine Ev.bind hf ?_
  have h3 := finS_size (rn s.data.toList 0 0).2.1
  refine Ev.pos (by rw [hsz]; omega) ?_
  refine Ev.bind (tokscan_ev _) ?_
  have hj3 := begins_j3 s t hs ht p hp hst
  by_cases hw : (s.extract 0 p ++ finS (rn s.data.toList 0 0).2.1).size ≤ 65536
  · refine Ev.pos (by omega) ?_
    have hgood : stop0 (s.extract 0 p ++ finS (rn s.data.toList 0 0).2.1).data.toList = none := by
      rw [app_data, ext0]
      have hra : (rn (s.data.toList.take p) 0 0).1 = (s.data.toList.take p).length := by rw [hrt, hr, List.length_take, len_toList]; omega
      have := stop_append (s.data.toList.take p) (finS (rn s.data.toList 0 0).2.1).data.toList 0 0 hra
      rw [hrt, stop_fin] at this
      exact this
    rw [scanV_good hw hgood]
    refine Ev.neg (by simp) ?_
    have hl := toksF_pos (s.extract 0 p ++ finS (rn s.data.toList 0 0).2.1) (s.extract 0 p ++ finS (rn s.data.toList 0 0).2.1).size 0 1 0
    have he : (((toksF (s.extract 0 p ++ finS (rn s.data.toList 0 0).2.1) ((s.extract 0 p ++ finS (rn s.data.toList 0 0).2.1).size + 1) 0 1 0).length : Int) == 0) = false := by rw [beq_eq_false_iff_ne]; omega
    simp only [he]
    exact hj3
  · refine Ev.neg (by omega) hj3
theorem pureBegins : latchkeylaw05_TokensBegins.Pure := by
  intro s t hs ht
  refine Ev.out (F := fun k => latchkeylaw05_TokensBegins.f k s t) ?_
  unfold latchkeylaw05_TokensBegins.f
  refine Ev.bind awake_ev (Ev.pos rfl (Ev.bind (tokscan_ev s) ?_))
  by_cases h1 : 65536 < s.size
  · have e : scanV s = ([], 3, 0, 0) := by unfold scanV; rw [if_pos h1]
    rw [e]
    exact Ev.neg (by simp) (Ev.pos (by omega) (Ev.pos (by simp) (Ev.const (by simp))))
  have hrl := rn_le s.data.toList 0 0
  rw [len_toList] at hrl
  have hst0 := stop_rn s.data.toList 0 0
  rw [stop_n] at hst0
  cases hst : stop0 s.data.toList with
  | none =>
    rw [scanV_good (by omega) hst]
    refine Ev.pos rfl (Ev.pos ?_ (Ev.const (by simp)))
    have := toksF_pos s s.size 0 1 0
    simp only; omega
  | some p =>
    rw [scanV_bad (by omega) hst]
    have hr : (rn s.data.toList 0 0).1 = p := by
      rw [hst] at hst0
      split at hst0
      · exact (Option.some.inj hst0).symm
      · cases hst0
    refine Ev.neg (by simp) (Ev.neg (by omega) ?_)
    have := begins_loop s t (by omega) p (by omega) (begins_j2 s t (by omega) ht p (by omega) hst hr) p 0 (by omega) (by omega)
    simpa [pos] using this
end Go.Proofs.YteedjhoffjkhmaaDoor.Q
