import Derived.Test.YteedjhoffjkhmaaDoorQT
import Derived.Test.YteedjhoffjkhmaaDoorPWl
namespace Go.Proofs.YteedjhoffjkhmaaDoor.Q
open Go.RowKit Go.Proofs.YteedjhoffjkhmaaDoor.PT Go.Proofs.YteedjhoffjkhmaaDoorW.PrintWords Go.Proofs.YteedjhoffjkhmaaDoorW.PrintLast Go.Proofs.YteedjhoffjkhmaaDoorW.PrintMore
set_option linter.unusedVariables false
set_option linter.unusedSimpArgs false
theorem blk_blanks : ∀ (n a l h : Nat), blk false (List.replicate n 32) a l h = (a + n, l, h)
  | 0, a, l, h => rfl
  | n + 1, a, l, h => by
    rw [List.replicate_succ, blk_32, blk_blanks n (a + 1) l h]
    congr 1; omega
theorem stop_blanks : ∀ n : Nat, stop0 (List.replicate n 32) = none
  | 0 => rfl
  | n + 1 => by rw [List.replicate_succ, stop_32, stop_blanks n]; rfl
theorem scan_blanks (s : ByteArray) (n : Nat) (hn : n ≤ 65536) (hd : s.data.toList = List.replicate n 32) : scanV s = ([⟨7, ⟨#[]⟩, 1, (n : Int) + 1⟩], 0, 0, 0) := by
  have hs : s.size = n := by rw [← len_toList, hd, List.length_replicate]
  rw [scanV_ok (by omega) (by rw [hd]; exact stop_blanks n)]
  unfold toksF
  rw [List.drop_zero, hd, blk_blanks]
  simp only [Nat.zero_add]
  rw [if_pos hs.symm]
  simp
theorem scan_long (s : ByteArray) (h : 65536 < s.size) : scanV s = ([], 3, 0, 0) := by
  unfold scanV; rw [if_pos h]
def tokA : S37 := ⟨1, ⟨#[97]⟩, 0, 0⟩
theorem mayA (b : Bool) : mayF tokA.f0 tokA.f1 b = true := by
  rw [mayF_one (kind := tokA.f0) (Or.inl rfl)]
  decide +kernel
theorem may_as : ∀ n : Nat, mayAll (List.replicate n tokA) = true
  | 0 => rfl
  | n + 1 => by
    rw [List.replicate_succ]
    unfold mayAll
    rw [mayA, may_as n]; rfl
theorem add_as : ∀ (n i : Nat), 0 < i → (addAll i (List.replicate n tokA)).length = 2 * n
  | 0, _, _ => rfl
  | n + 1, i, hi => by
    rw [List.replicate_succ, addAll_cons, List.length_append, add_as n (i + 1) (by omega)]
    unfold addT
    rw [if_neg (by decide), if_pos hi]
    have : (tokB tokA).length = 1 := by decide +kernel
    rw [List.length_append, this]
    simp; omega
theorem add_as0 (n : Nat) : (addAll 0 (List.replicate (n + 1) tokA)).length = 2 * n + 1 := by
  rw [List.replicate_succ, addAll_cons, List.length_append, add_as n 1 (by omega)]
  unfold addT
  rw [if_neg (by decide), if_neg (by omega)]
  have : (tokB tokA).length = 1 := by decide +kernel
  rw [List.length_append, this]
  simp; omega
theorem print_as (n : Nat) : printV (List.replicate (n + 1) tokA) = if 65536 < 2 * n + 1 then (⟨#[]⟩, 3) else (strOfNums (addAll 0 (List.replicate (n + 1) tokA)), 0) := by
  unfold printV
  rw [if_pos (may_as _)]
  unfold printTail
  rw [List.nil_append, add_as0]
theorem set_fill {α : Type} (a z : α) (i m : Nat) : (List.replicate i a ++ List.replicate (m + 1) z).set i a = List.replicate (i + 1) a ++ List.replicate m z := by
  rw [List.set_append_right _ _ (by simp)]
  simp only [List.length_replicate, Nat.sub_self]
  rw [List.replicate_succ (n := m), List.set_cons_zero, List.replicate_succ' (n := i), List.append_assoc]
  rfl
theorem fill_len {α : Type} (a z : α) (i m n : Nat) (e : i + m = n) : ((List.replicate i a ++ List.replicate m z).length : Int) = (n : Int) := by simp; omega
theorem next_i (i : Nat) (hi : i ≤ 4611686018427387904) : wrap64 ((i : Int) + 1) = ((i + 1 : Nat) : Int) := by rw [w64 (by omega) (by omega)]; omega
theorem fill0 (n : Nat) (hn : n ≤ 4611686018427387904) (v : Bool) (h : Ev (fun k => latchkeylaw05_TokensLimits.l0 k (List.replicate n 32) (n : Int)) v) : ∀ (m i : Nat), i + m = n → Ev (fun k => latchkeylaw05_TokensLimits.l0 k (List.replicate i 32 ++ List.replicate m 0) (i : Int)) v
  | 0, i, e => by
    obtain rfl : i = n := by omega
    rw [List.replicate_zero, List.append_nil]; exact h
  | m + 1, i, e => by
    refine Ev.succ ?_
    unfold latchkeylaw05_TokensLimits.l0
    refine Ev.pos (by rw [fill_len _ _ _ _ n e]; omega) ?_
    refine Ev.pos (by omega) ?_
    rw [Int.toNat_natCast, set_fill, next_i i (by omega)]
    exact fill0 n hn v h m (i + 1) (by omega)
theorem fill1 (n : Nat) (hn : n ≤ 4611686018427387904) (v : Bool) (h : Ev (fun k => latchkeylaw05_TokensLimits.l1 k (List.replicate n tokA) (n : Int)) v) : ∀ (m i : Nat), i + m = n → Ev (fun k => latchkeylaw05_TokensLimits.l1 k (List.replicate i tokA ++ List.replicate m z37) (i : Int)) v
  | 0, i, e => by
    obtain rfl : i = n := by omega
    rw [List.replicate_zero, List.append_nil]; exact h
  | m + 1, i, e => by
    refine Ev.succ ?_
    unfold latchkeylaw05_TokensLimits.l1
    refine Ev.pos (by rw [fill_len _ _ _ _ n e]; omega) ?_
    refine Ev.pos (by omega) ?_
    rw [Int.toNat_natCast, next_i i (by omega)]
    have e2 := set_fill tokA z37 i m
    unfold tokA at e2 ⊢
    rw [e2]
    exact fill1 n hn v h m (i + 1) (by omega)
theorem nums_rep (n : Nat) : (strOfNums (List.replicate n 32)).data.toList = List.replicate n 32 := by
  rw [strOfNums_data]
  rw [List.map_replicate]
  rfl
def okW (w : ByteArray) : Bool := match tokens_Scan.f 60 w with
  | some v => v.1.length == 2 && (rd_T37 v.1 0).f0 == 2 && v.2.1 == 0
  | none => false
theorem words_ok : ∀ w ∈ (latchkeyref05_Words.f).getD [], okW w = true := by decide +kernel
theorem words_len : ((latchkeyref05_Words.f).getD []).length ≤ 1000 := by decide +kernel
theorem words_f : latchkeyref05_Words.f = some ((latchkeyref05_Words.f).getD []) := rfl
theorem scan_at (s : ByteArray) (v : List S37 × Int × Int × Int) (h : tokens_Scan.f 60 s = some v) : Ev (fun k => tokens_Scan.f k s) v := Ev.of_mono (fun k => tokens_Scan.mono s k) h
theorem okW_ev {w : ByteArray} (h : okW w = true) : ∃ v, Ev (fun k => tokens_Scan.f k w) v ∧ (v.1.length : Int) = 2 ∧ (rd_T37 v.1 0).f0 = 2 ∧ v.2.1 = 0 := by
  unfold okW at h
  cases hv : tokens_Scan.f 60 w with
  | none => rw [hv] at h; cases h
  | some v =>
    rw [hv] at h
    simp only [Bool.and_eq_true, beq_iff_eq] at h
    exact ⟨v, scan_at w v hv, by omega, h.1.2, h.2⟩
theorem l2_ev (s t : ByteArray) (hs : (s.size : Int) = 65535) (ht : (t.size : Int) = 65536) (W : List ByteArray) (hW : ∀ w ∈ W, okW w = true) (hl : W.length ≤ 1000) :
    ∀ m i : Nat, i + m = W.length → Ev (fun k => latchkeylaw05_TokensLimits.l2 k s 0 3 t 0 W (i : Int)) true
  | 0, i, e => by
    refine Ev.succ ?_
    unfold latchkeylaw05_TokensLimits.l2
    refine Ev.neg (by omega) ?_
    refine Ev.pos rfl ?_
    refine Ev.pos hs ?_
    refine Ev.pos rfl ?_
    refine Ev.pos rfl ?_
    refine Ev.pos ht ?_
    exact Ev.bind awake_ev (Ev.pure _)
  | m + 1, i, e => by
    refine Ev.succ ?_
    unfold latchkeylaw05_TokensLimits.l2
    refine Ev.pos (by omega) ?_
    refine Ev.pos (by omega) ?_
    have hr : rdOf ByteArray.empty W (i : Int) = W[i]'(by omega) := by
      unfold rdOf; rw [Int.toNat_natCast, List.getD_eq_getElem?_getD, List.getElem?_eq_getElem (by omega)]; rfl
    rw [hr]
    obtain ⟨v, h1, h2, h3, h4⟩ := okW_ev (hW (W[i]'(by omega)) (List.getElem_mem _))
    refine Ev.bind h1 ?_
    refine Ev.pos h2 ?_
    refine Ev.pos (by omega) ?_
    refine Ev.pos h3 ?_
    refine Ev.pos h4 ?_
    rw [next_i i (by omega)]
    exact l2_ev s t hs ht W hW hl m (i + 1) (by omega)
def tokAB : S37 := ⟨1, ⟨#[97, 98]⟩, 0, 0⟩
theorem mayAB (b : Bool) : mayF tokAB.f0 tokAB.f1 b = true := by
  rw [mayF_one (kind := tokAB.f0) (Or.inl rfl)]
  decide +kernel
theorem may_asb : ∀ n : Nat, mayAll (List.replicate n tokA ++ [tokAB]) = true
  | 0 => by
    show mayAll [tokAB] = true
    unfold mayAll
    rw [mayAB]; rfl
  | n + 1 => by
    rw [List.replicate_succ, List.cons_append]
    unfold mayAll
    rw [mayA, may_asb n]; rfl
theorem add_asb : ∀ (n i : Nat), 0 < i → (addAll i (List.replicate n tokA ++ [tokAB])).length = 2 * n + 3
  | 0, i, hi => by
    show (addAll i [tokAB]).length = 3
    rw [addAll_cons, List.length_append]
    unfold addT
    rw [if_neg (by decide), if_pos hi]
    have : (tokB tokAB).length = 2 := by decide +kernel
    rw [List.length_append, this]
    rfl
  | n + 1, i, hi => by
    rw [List.replicate_succ, List.cons_append, addAll_cons, List.length_append, add_asb n (i + 1) (by omega)]
    unfold addT
    rw [if_neg (by decide), if_pos hi]
    have : (tokB tokA).length = 1 := by decide +kernel
    rw [List.length_append, this]
    simp; omega
theorem add_asb0 (n : Nat) : (addAll 0 (List.replicate (n + 1) tokA ++ [tokAB])).length = 2 * n + 4 := by
  rw [List.replicate_succ, List.cons_append, addAll_cons, List.length_append, add_asb n 1 (by omega)]
  unfold addT
  rw [if_neg (by decide), if_neg (by omega)]
  have : (tokB tokA).length = 1 := by decide +kernel
  rw [List.length_append, this]
  simp; omega
theorem print_asb (n : Nat) : printV (List.replicate (n + 1) tokA ++ [tokAB]) = if 65536 < 2 * n + 4 then (⟨#[]⟩, 3) else (strOfNums (addAll 0 (List.replicate (n + 1) tokA ++ [tokAB])), 0) := by
  unfold printV
  rw [if_pos (may_asb _)]
  unfold printTail
  rw [List.nil_append, add_asb0]
theorem wt_rep : ∀ n : Nat, wt (List.replicate n tokA) = 9 * n
  | 0 => rfl
  | n + 1 => by
    rw [List.replicate_succ]
    unfold wt
    rw [wt_rep n]
    have : tokA.f1.size = 1 := rfl
    omega
theorem wt_repb (n : Nat) : wt (List.replicate n tokA ++ [tokAB]) = 9 * n + 10 := by
  rw [wt_app, wt_rep]
  have : wt [tokAB] = 10 := rfl
  omega
theorem rd_last (n : Nat) : rd_T37 (List.replicate (n + 1) tokA) (n : Int) = tokA := by
  unfold rd_T37
  rw [Int.toNat_natCast, List.getD_eq_getElem?_getD, List.getElem?_replicate, if_pos (by omega)]
  rfl
theorem set_last (n : Nat) : (List.replicate (n + 2) tokA).set (n + 1) tokAB = tokA :: (List.replicate n tokA ++ [tokAB]) := by
  rw [List.replicate_succ, List.set_cons_succ, List.replicate_succ', List.set_append_right _ _ (by simp)]
  simp
theorem end1 (n : Nat) (hn : (32768 : Int) = ((n + 1 + 1 : Nat) : Int)) : Ev (fun k => latchkeylaw05_TokensLimits.l1 k (List.replicate (n + 1 + 1 + 1) tokA) ((n + 1 + 1 + 1 : Nat) : Int)) true := by
  have hl : ((List.replicate (n + 1 + 1 + 1) tokA).length : Int) = ((n + 1 + 1 + 1 : Nat) : Int) := by rw [List.length_replicate]
  have hn' : n = 32766 := by omega
  have hd : (List.replicate (n + 1 + 1 + 1) tokA).drop 1 = List.replicate (n + 1 + 1) tokA := by rw [List.replicate_succ]; rfl
  have p1 := tokprint_ev (List.replicate (n + 1 + 1) tokA) (by rw [wt_rep]; omega)
  rw [print_as, if_neg (by omega)] at p1
  have p2 := tokprint_ev (List.replicate (n + 1 + 1 + 1) tokA) (by rw [wt_rep]; omega)
  rw [print_as, if_pos (by omega)] at p2
  have p3 := tokprint_ev (List.replicate (n + 1) tokA ++ [tokAB]) (by rw [wt_repb]; omega)
  rw [print_asb, if_neg (by omega)] at p3
  have z1 : ((strOfNums (addAll 0 (List.replicate (n + 1 + 1) tokA))).size : Int) = 65535 := by rw [strOfNums_size, add_as0]; omega
  have z3 : ((strOfNums (addAll 0 (List.replicate (n + 1) tokA ++ [tokAB]))).size : Int) = 65536 := by rw [strOfNums_size, add_asb0]; omega
  refine Ev.succ ?_
  unfold latchkeylaw05_TokensLimits.l1
  refine Ev.neg (by rw [hl]; omega) ?_
  refine Ev.pos (by rw [hl]; omega) ?_
  rw [hd, hn]
  refine Ev.bind p1 ?_
  refine Ev.bind p2 ?_
  refine Ev.pos (by rw [hl]; omega) ?_
  have e3 : (((List.replicate (n + 1 + 1 + 1) tokA).set (((n + 1 + 1 : Nat) : Int)).toNat (⟨(rd_T37 (List.replicate (n + 1 + 1 + 1) tokA) ((n + 1 + 1 : Nat) : Int)).f0, (⟨#[97, 98]⟩ : ByteArray), (rd_T37 (List.replicate (n + 1 + 1 + 1) tokA) ((n + 1 + 1 : Nat) : Int)).f2, (rd_T37 (List.replicate (n + 1 + 1 + 1) tokA) ((n + 1 + 1 : Nat) : Int)).f3⟩ : S37)).drop 1) = List.replicate (n + 1) tokA ++ [tokAB] := by
    rw [rd_last (n + 1 + 1), Int.toNat_natCast]
    have := set_last (n + 1)
    unfold tokAB at this ⊢
    rw [show (⟨tokA.f0, (⟨#[97, 98]⟩ : ByteArray), tokA.f2, tokA.f3⟩ : S37) = ⟨1, ⟨#[97, 98]⟩, 0, 0⟩ from rfl, this]
    rfl
  rw [e3]
  refine Ev.bind p3 ?_
  rw [words_f]
  refine Ev.bind (Ev.pure _) ?_
  exact l2_ev _ _ z1 z3 _ words_ok words_len _ 0 (by rw [Nat.zero_add])
def rowB : ByteArray := ⟨#[97, 98, 99, 100, 101, 102, 103, 104, 105, 106, 107, 108, 109, 110, 111, 112, 113, 114, 115, 116, 117, 118, 119, 120, 121, 122, 95, 48, 49, 50, 51, 52]⟩
def rowB5 : ByteArray := ⟨#[97, 98, 99, 100, 101, 102, 103, 104, 105, 106, 107, 108, 109, 110, 111, 112, 113, 114, 115, 116, 117, 118, 119, 120, 121, 122, 95, 48, 49, 50, 51, 52, 53]⟩
def okR : Bool := match tokens_Scan.f 60 rowB with
  | some v => v.1.length == 2 && (rd_T37 v.1 0).f1.toList == rowB.toList && (rd_T37 v.1 0).f0 == 1 && v.2.1 == 0
  | none => false
def okR5 : Bool := match tokens_Scan.f 60 rowB5 with
  | some v => v.1.length == 0 && v.2.1 == 50 && v.2.2.1 == 1 && v.2.2.2 == 33
  | none => false
theorem okR_is : okR = true := by decide +kernel
theorem okR5_is : okR5 = true := by decide +kernel
theorem row_ev : ∃ v, Ev (fun k => tokens_Scan.f k rowB) v ∧ (v.1.length : Int) = 2 ∧ (rd_T37 v.1 0).f1.toList = rowB.toList ∧ (rd_T37 v.1 0).f0 = 1 ∧ v.2.1 = 0 := by
  have h := okR_is
  unfold okR at h
  cases hv : tokens_Scan.f 60 rowB with
  | none => rw [hv] at h; cases h
  | some v =>
    rw [hv] at h
    simp only [Bool.and_eq_true, beq_iff_eq] at h
    exact ⟨v, scan_at _ v hv, by omega, h.1.1.2, h.1.2, h.2⟩
theorem row5_ev : ∃ v, Ev (fun k => tokens_Scan.f k rowB5) v ∧ (v.1.length : Int) = 0 ∧ v.2.1 = 50 ∧ v.2.2.1 = 1 ∧ v.2.2.2 = 33 := by
  have h := okR5_is
  unfold okR5 at h
  cases hv : tokens_Scan.f 60 rowB5 with
  | none => rw [hv] at h; cases h
  | some v =>
    rw [hv] at h
    simp only [Bool.and_eq_true, beq_iff_eq] at h
    exact ⟨v, scan_at _ v hv, by omega, h.1.1.2, h.1.2, h.2⟩
theorem rowB_list : rowB.toList = ([97, 98, 99, 100, 101, 102, 103, 104, 105, 106, 107, 108, 109, 110, 111, 112, 113, 114, 115, 116, 117, 118, 119, 120, 121, 122, 95, 48, 49, 50, 51, 52] : List UInt8) := by decide +kernel
theorem lim_j3 : Ev (fun k => latchkeylaw05_TokensLimits.j3 k false) true := by
  refine Ev.succ ?_
  unfold latchkeylaw05_TokensLimits.j3
  refine Ev.neg (by simp) ?_
  refine Ev.pos (by omega) ?_
  have h := fill1 (32766 + 1 + 1 + 1) (by omega) true (end1 32766 (by omega)) (32766 + 1 + 1 + 1) 0 (by omega)
  rw [List.replicate_zero, List.nil_append] at h
  exact h
theorem lim_j2 : Ev (fun k => latchkeylaw05_TokensLimits.j2 k false) true := by
  obtain ⟨v, h1, h2, h3, h4, h5⟩ := row_ev
  obtain ⟨u, g1, g2, g3, g4, g5⟩ := row5_ev
  unfold rowB at h1
  unfold rowB5 at g1
  rw [rowB_list] at h3
  refine Ev.succ ?_
  unfold latchkeylaw05_TokensLimits.j2
  refine Ev.neg (by simp) ?_
  refine Ev.bind h1 ?_
  refine Ev.bind g1 ?_
  refine Ev.pos h2 ?_
  refine Ev.pos (by omega) ?_
  refine Ev.pos h3 ?_
  refine Ev.pos h4 ?_
  refine Ev.pos h5 ?_
  refine Ev.pos g2 ?_
  rw [g3, g4, g5]
  exact lim_j3
theorem lim_j1 (n : Nat) (hn : n = 65536) : Ev (fun k => latchkeylaw05_TokensLimits.j1 k (List.replicate n 32) false) true := by
  have hz : (strOfNums (List.replicate n 32)).size = n := by rw [strOfNums_size, List.length_replicate]
  refine Ev.succ ?_
  unfold latchkeylaw05_TokensLimits.j1
  refine Ev.neg (by simp) ?_
  refine Ev.pos (by rw [hz]; omega) ?_
  have h := tokscan_ev (strOfNums (List.replicate n 32) ++ (⟨#[33]⟩ : ByteArray))
  rw [scan_long _ (by rw [ByteArray.size_append, hz]; show 65536 < n + 1; omega)] at h
  refine Ev.bind h ?_
  refine Ev.pos rfl ?_
  exact lim_j2
theorem l0_end (n : Nat) (hn : n = 65536) : Ev (fun k => latchkeylaw05_TokensLimits.l0 k (List.replicate n 32) (n : Int)) true := by
  have h := tokscan_ev (strOfNums (List.replicate n 32))
  rw [scan_blanks _ n (by omega) (nums_rep n)] at h
  refine Ev.succ ?_
  unfold latchkeylaw05_TokensLimits.l0
  refine Ev.neg (by rw [List.length_replicate]; omega) ?_
  refine Ev.bind h ?_
  refine Ev.pos rfl ?_
  refine Ev.pos rfl ?_
  refine Ev.pos (by simp) ?_
  have e : (((rd_T37 [(⟨7, ⟨#[]⟩, 1, (n : Int) + 1⟩ : S37)] 0).f3) != 65537) = false := by
    show (((n : Int) + 1) != 65537) = false
    rw [hn]; rfl
  rw [e]
  exact lim_j1 n hn
theorem limits_pure : ∃ k, latchkeylaw05_TokensLimits.f k = some true := by
  have h := fill0 65536 (by omega) true (l0_end 65536 rfl) 65536 0 (by omega)
  rw [List.replicate_zero, List.nil_append] at h
  refine Ev.out (F := fun k => latchkeylaw05_TokensLimits.f k) ?_
  unfold latchkeylaw05_TokensLimits.f
  refine Ev.pos (by omega) ?_
  exact h
end Go.Proofs.YteedjhoffjkhmaaDoor.Q
