import Derived.Test.YteedjhoffjkhmaaDoorQSa
import Derived.Test.YteedjhoffjkhmaaDoorQSw
import Derived.Test.YteedjhoffjkhmaaDoorPTx14
import Derived.Test.YteedjhoffjkhmaaDoorPTx15
import Derived.Test.YteedjhoffjkhmaaDoorPTx16
import Derived.Test.YteedjhoffjkhmaaDoorPTx17
import Derived.Test.YteedjhoffjkhmaaDoorPTx18
import Derived.Test.YteedjhoffjkhmaaDoorPTx19
import Derived.Test.YteedjhoffjkhmaaDoorPTx20
import Derived.Test.YteedjhoffjkhmaaDoorPTx21
import Derived.Test.YteedjhoffjkhmaaDoorPUa
namespace Go.Proofs.YteedjhoffjkhmaaDoor.Q
open Go.RowKit Go.Proofs.YteedjhoffjkhmaaDoor.PT Go.Proofs.YteedjhoffjkhmaaDoorW.PrintWords Go.Proofs.YteedjhoffjkhmaaDoorW.PrintLast Go.Proofs.YteedjhoffjkhmaaDoorW.PrintMore
set_option linter.unusedVariables false
set_option linter.unusedSimpArgs false
theorem rowDigits_big (s : ByteArray) (hs : s.size ≤ 140737488351232) : ∀ (N i : Nat), s.size - i ≤ N → i ≤ s.size → Ev (fun k => latchkeyref05_rowDigits.l0 k s (i : Int)) ((i + dl (s.data.toList.drop i) : Nat) : Int) := by
  intro N
  induction N with
  | zero =>
    intro i hN hi
    refine Ev.succ ?_
    simp only [latchkeyref05_rowDigits.l0]
    rw [drop_nil (by omega)]
    exact Ev.neg (by omega) (Ev.const (by simp [dl]))
  | succ N ih =>
    intro i hN hi
    refine Ev.succ ?_
    simp only [latchkeyref05_rowDigits.l0]
    by_cases h : i < s.size
    · obtain ⟨c, T, e1, e2, e3, e4⟩ := drop_cons h
      refine Ev.pos (by omega) (Ev.pos (by omega) ?_)
      rw [e4, e1]
      refine Ev.bind (Ev.const (ref_digit c.toNat)) ?_
      by_cases hd : digitN c.toNat = true
      · refine Ev.pos hd ?_
        rw [tk_nat (by omega)]
        refine (ih (i + 1) (by omega) (by omega)).val ?_
        rw [e2, dl_cons_pos (c := c) hd]
        omega
      · refine Ev.neg hd (Ev.const ?_)
        rw [dl_cons_neg (c := c) hd]; simp
    · rw [drop_nil h]
      exact Ev.neg (by omega) (Ev.const (by simp [dl]))
theorem rd_ev (s : ByteArray) (hs : s.size ≤ 140737488351232) (i : Nat) (hi : i ≤ s.size) : Ev (fun k => latchkeyref05_rowDigits.f k s (i : Int)) ((i + dl (s.data.toList.drop i) : Nat) : Int) := by
  unfold latchkeyref05_rowDigits.f
  exact rowDigits_big s hs _ i (Nat.le_refl _) hi
def realT (L : List UInt8) (m : Nat) : Bool :=
  if m = L.length then true else if L[m]? = some 101 then
    (if L[m + 1]? = some 45 then decide (m + 1 + 1 < L.length ∧ m + 1 + 1 + dl (L.drop (m + 1 + 1)) = L.length) else decide (m + 1 < L.length ∧ m + 1 + dl (L.drop (m + 1)) = L.length))
  else false
def realF (L : List UInt8) : Bool :=
  if dl L = 0 then false else if L[dl L]? = some 46 then (if dl (L.drop (dl L + 1)) = 0 then false else realT L (dl L + (1 + dl (L.drop (dl L + 1))))) else false
theorem realPiece_ev (s : ByteArray) (hs : s.size ≤ 140737488351232) : Ev (fun k => latchkeyref05_realPiece.f k s) (realF s.data.toList) := by
  have hlen : s.data.toList.length = s.size := len_toList s
  have btn : ∀ (n : Nat) (c : UInt8), s.data.toList[n]? = some c → bt s (n : Int) = (c.toNat : Int) := fun n c h => bt_of h
  have get : ∀ n : Nat, n < s.size → ∃ c, s.data.toList[n]? = some c := fun n h => ⟨_, List.getElem?_eq_getElem (by rw [hlen]; omega)⟩
  have rd := rd_ev s hs
  generalize s.data.toList = L at *
  have l0 := dl_le L
  have inj : ∀ c d : UInt8, (c.toNat : Int) = (d.toNat : Int) → c = d := fun c d h => UInt8.toNat_inj.mp (by omega)
  have jt : ∀ (x : Int) (v : Bool), v = false → Ev (fun k => latchkeyref05_realPiece.j0 k s x true) v := by
    intro x v hv
    refine Ev.succ ?_
    simp only [latchkeyref05_realPiece.j0]
    exact Ev.pos (by trivial) (Ev.const (by rw [hv]))
  unfold latchkeyref05_realPiece.f realF
  have r0 := rd 0 (by omega)
  rw [List.drop_zero, Nat.zero_add] at r0
  refine Ev.bind r0 ?_
  by_cases h0 : dl L = 0
  · rw [if_pos h0]; exact Ev.pos (by omega) (jt _ _ rfl)
  rw [if_neg h0]
  refine Ev.neg (by omega) ?_
  by_cases h1 : dl L < s.size
  rotate_left
  · rw [if_neg (fun e => by have := at_lt e; omega)]
    exact Ev.pos (by omega) (jt _ _ rfl)
  refine Ev.neg (by omega) (Ev.pos (by omega) (Ev.pos (by omega) ?_))
  obtain ⟨c, hc⟩ := get _ h1
  rw [btn _ _ hc]
  by_cases h2 : L[dl L]? = some 46
  rotate_left
  · rw [if_neg h2]
    have : (((c.toNat : Int)) != 46) = true := by
      rw [bne_iff_ne]; intro e; exact h2 (by rw [hc, inj c 46 e])
    rw [this]
    exact jt _ _ rfl
  rw [if_pos h2]
  have hcc : c = 46 := by rw [hc] at h2; exact Option.some.inj h2
  rw [show (((c.toNat : Int)) != 46) = false by rw [hcc]; rfl]
  refine Ev.succ ?_
  simp only [latchkeyref05_realPiece.j0]
  refine Ev.neg (by simp) ?_
  rw [tk_nat (by omega)]
  have l1 := dl_drop_le L (dl L + 1) (by omega)
  refine Ev.bind (rd (dl L + 1) (by omega)) ?_
  by_cases h3 : dl (L.drop (dl L + 1)) = 0
  · rw [if_pos h3]; exact Ev.pos (by omega) (Ev.pure _)
  rw [if_neg h3]
  refine Ev.neg (by omega) ?_
  rw [show dl L + 1 + dl (L.drop (dl L + 1)) = dl L + (1 + dl (L.drop (dl L + 1))) by omega] at l1 ⊢
  generalize dl L + (1 + dl (L.drop (dl L + 1))) = m at l1 ⊢
  unfold realT
  by_cases h4 : m = L.length
  · rw [if_pos h4]; exact Ev.pos (by omega) (Ev.pure _)
  rw [if_neg h4]
  refine Ev.neg (by omega) (Ev.pos (by omega) (Ev.pos (by omega) ?_))
  obtain ⟨d, hd⟩ := get m (by omega)
  rw [btn _ _ hd]
  by_cases h5 : L[m]? = some 101
  rotate_left
  · rw [if_neg h5]
    exact Ev.neg (fun e => h5 (by rw [hd, inj d 101 e])) (Ev.pure _)
  rw [if_pos h5]
  have hdd : d = 101 := by rw [hd] at h5; exact Option.some.inj h5
  refine Ev.pos (by rw [hdd]; rfl) ?_
  rw [tk_nat (by omega)]
  by_cases h6 : m + 1 < s.size
  rotate_left
  · have : ¬ L[m + 1]? = some 45 := fun e => by have := at_lt e; omega
    rw [if_neg this]
    exact Ev.neg (by omega) (Ev.const (by simp; omega))
  refine Ev.pos (by omega) (Ev.pos (by omega) ?_)
  obtain ⟨e, he⟩ := get _ h6
  rw [btn _ _ he]
  have l2 := dl_drop_le L (m + 1) (by omega)
  by_cases h7 : L[m + 1]? = some 45
  · rw [if_pos h7]
    have hee : e = 45 := by rw [he] at h7; exact Option.some.inj h7
    refine Ev.pos (by rw [hee]; rfl) ?_
    rw [tk_nat (by omega)]
    by_cases h8 : m + 1 + 1 < s.size
    · refine Ev.pos (by omega) (Ev.bind (rd (m + 1 + 1) (by omega)) (Ev.const ?_))
      simp only [Option.some.injEq]
      rw [Bool.eq_iff_iff]; simp; omega
    · exact Ev.neg (by omega) (Ev.const (by simp; omega))
  · rw [if_neg h7]
    refine Ev.neg (fun x => h7 (by rw [he, inj e 45 x])) (Ev.bind (rd (m + 1) (by omega)) (Ev.const ?_))
    simp only [Option.some.injEq]
    rw [Bool.eq_iff_iff]; simp; omega
theorem numEnd_len (L : List UInt8) (n : Nat) (h : n = L.length) : numEnd L n = true := by
  unfold numEnd; rw [List.getElem?_eq_none (by omega)]
def numTok (L : List UInt8) (k : Nat) : Bool := decide (dl L ≠ 0) && ((numF L).2.2 && (decide ((numF L).1 = L.length) && decide ((numF L).2.1 = k)))
theorem intTok (L : List UInt8) : numTok L 3 = decide (L ≠ [] ∧ dl L = L.length) := by
  unfold numTok numF
  have l0 := dl_le L
  have hz : L ≠ [] ↔ 0 < L.length := by rw [List.length_pos_iff]
  by_cases h2 : L[dl L]? = some 46
  · have := at_lt h2
    rw [if_pos h2]
    have : ¬ (dl L = L.length) := by omega
    split
    · simp [this]
    · split
      · split <;> split <;> simp [this]
      · simp [this]
  · rw [if_neg h2]
    by_cases h3 : dl L = L.length
    · simp only [numEnd_len L _ h3]
      rw [Bool.eq_iff_iff]; simp [hz]; omega
    · simp [h3]
theorem realTok (L : List UInt8) : numTok L 4 = realF L := by
  unfold numTok numF realF
  have l0 := dl_le L
  by_cases h0 : dl L = 0
  · simp [h0]
  rw [if_neg h0]
  by_cases h2 : L[dl L]? = some 46
  rotate_left
  · rw [if_neg h2, if_neg h2]; simp
  rw [if_pos h2, if_pos h2]
  by_cases h3 : dl (L.drop (dl L + 1)) = 0
  · rw [if_pos h3, if_pos h3]; simp
  rw [if_neg h3, if_neg h3]
  have := at_lt h2
  have l1 := dl_drop_le L (dl L + 1) (by omega)
  rw [show dl L + 1 + dl (L.drop (dl L + 1)) = dl L + (1 + dl (L.drop (dl L + 1))) by omega] at l1
  generalize dl L + (1 + dl (L.drop (dl L + 1))) = m at l1 ⊢
  unfold realT
  by_cases h5 : L[m]? = some 101
  rotate_left
  · rw [if_neg h5, if_neg h5]
    by_cases h4 : m = L.length
    · rw [if_pos h4]; simp [h0, numEnd_len L L.length rfl, h4]
    · rw [if_neg h4]; simp [h4]
  have h4 := at_lt h5
  rw [if_pos h5, if_neg (show ¬ m = L.length by omega), if_pos h5]
  by_cases h7 : L[m + 1]? = some 45
  · rw [if_pos h7, if_pos h7]
    have h8 := at_lt h7
    have l3 := dl_drop_le L (m + 1 + 1) (by omega)
    by_cases h9 : dl (L.drop (m + 1 + 1)) = 0
    · rw [if_pos h9]; simp; omega
    · rw [if_neg h9]
      by_cases h10 : m + 1 + 1 + dl (L.drop (m + 1 + 1)) = L.length
      · have : m + 1 + 1 < L.length := by omega
        simp [h0, numEnd_len L L.length rfl, h10, this]
      · simp [h10]
  · rw [if_neg h7, if_neg h7]
    have l3 := dl_drop_le L (m + 1) (by omega)
    by_cases h9 : dl (L.drop (m + 1)) = 0
    · rw [if_pos h9]; simp; omega
    · rw [if_neg h9]
      by_cases h10 : m + 1 + dl (L.drop (m + 1)) = L.length
      · have : m + 1 < L.length := by omega
        simp [h0, numEnd_len L L.length rfl, h10, this]
      · simp [h10]
def kindF (L : List UInt8) : Int := (tokF ⟨#[]⟩ L).1
theorem kindF_eq (s : ByteArray) (c : UInt8) (T : List UInt8) : (tokF s (c :: T)).1 = kindF (c :: T) := by
  unfold kindF
  rw [tokF_cons, tokF_cons]
  split
  · rfl
  split
  · rfl
  split <;> rfl
def oneK (L : List UInt8) (kind : Int) : Bool := match L with
  | [] => false
  | c :: T => (!(blankN c.toNat) && !(decide (c.toNat = 47 ∧ T.head? = some 47))) && ((nxm (c :: T)).2 && (decide ((nxm (c :: T)).1 = T.length + 1) && decide (kindF (c :: T) = kind)))
theorem oneK_blank (c : UInt8) (T : List UInt8) (kind : Int) (h : blankN c.toNat = true ∨ (c.toNat = 47 ∧ T.head? = some 47)) : oneK (c :: T) kind = false := by
  unfold oneK
  rcases h with h | h
  · simp [h]
  · simp [h.1, h.2]
theorem one_ev (s : ByteArray) (hs : s.size ≤ 32) (kind : Int) : Ev (fun k => latchkeyref05_one.f k s kind) (oneK s.data.toList kind) := by
  unfold latchkeyref05_one.f
  refine Ev.neg (by omega) (Ev.bind (run_ev s (by omega)) ?_)
  have hst := stop_rn s.data.toList 0 0
  rw [stop_n, len_toList] at hst
  have hfin := finish_ev s (by omega)
  have hfb := finS_list (rn s.data.toList 0 0).2.1
  generalize (rn s.data.toList 0 0) = r at hst hfin hfb
  obtain ⟨p, st, n⟩ := r
  simp only at hst hfin hfb ⊢
  have hlen : s.data.toList.length = s.size := len_toList s
  cases hL : s.data.toList with
  | nil => exact Ev.pos (by rw [Lib.toList_data, hL]) (Ev.pure _)
  | cons c T =>
    rw [hL] at hst hlen
    simp only [List.length_cons] at hlen
    refine Ev.neg (by rw [Lib.toList_data, hL]; simp) ?_
    by_cases hbl : blankN c.toNat = true ∨ (c.toNat = 47 ∧ T.head? = some 47)
    · rw [oneK_blank c T kind hbl]
      by_cases h1 : p < s.size
      · exact Ev.pos (by omega) (Ev.pure _)
      refine Ev.neg (by omega) (Ev.bind hfin ?_)
      by_cases h2 : (finS st).toList = []
      · refine Ev.pos h2 ?_
        have hk := (skip_ev s (by omega) s.size 0 (by omega) (by omega)).1 1 0
        unfold latchkeyref05_skip.f
        refine Ev.bind hk ?_
        obtain ⟨_, _, _, _, _, b6⟩ := stop_blk (s.data.toList.drop 0) false 0 1 0 0 (Nat.le_refl _)
        refine Ev.neg ?_ (Ev.pure _)
        intro e
        have e0 : (blk false (s.data.toList.drop 0) 0 1 0).1 = 0 := by omega
        obtain ⟨c', T', d1, d2, d3⟩ := b6 (by rw [e0, List.drop_zero, len_toList]; omega)
        rw [e0, List.drop_zero, List.drop_zero, hL] at d1
        injection d1 with d1 d1'
        subst d1; subst d1'
        rcases hbl with h | h
        · rw [h] at d2; cases d2
        · exact d3 h
      · exact Ev.neg h2 (Ev.pure _)
    have h4 : blankN c.toNat = false := by
      cases hb : blankN c.toNat with
      | false => rfl
      | true => exact absurd (Or.inl hb) hbl
    have h5 : ¬ (c.toNat = 47 ∧ T.head? = some 47) := fun h => hbl (Or.inr h)
    have hone : oneK (c :: T) kind = ((nxm (c :: T)).2 && (decide ((nxm (c :: T)).1 = T.length + 1) && decide (kindF (c :: T) = kind))) := by
      unfold oneK; simp [h4, h5]
    rw [hone]
    rw [stop_next c T h4 h5] at hst
    cases hok : (nxm (c :: T)).2 with
    | false =>
      rw [hok] at hst
      simp only [okStop, Bool.false_eq_true, if_false] at hst
      by_cases h1 : p < s.size
      · exact Ev.pos (by omega) (Ev.pure _)
      refine Ev.neg (by omega) (Ev.bind hfin ?_)
      have hb : badst st = true := by
        cases hb : badst st with
        | true => rfl
        | false => rw [if_neg (by simp [h1, hb])] at hst; cases hst
      rw [hb] at hfb
      exact Ev.neg (by simpa using hfb) (Ev.pure _)
    | true =>
      rw [hok] at hst
      simp only [okStop, if_true] at hst
      by_cases hn : (nxm (c :: T)).1 = T.length + 1
      · have hd : (c :: T).drop (nxm (c :: T)).1 = [] := List.drop_eq_nil_of_le (by simp only [List.length_cons]; omega)
        rw [hd] at hst
        have hz : ¬ (p < s.size ∨ badst st = true) := by
          intro h
          rw [if_pos h] at hst; cases hst
        have h1 : ¬ p < s.size := fun h => hz (Or.inl h)
        have hb : badst st = false := by
          cases hb : badst st with
          | false => rfl
          | true => exact absurd (Or.inr hb) hz
        rw [hb] at hfb
        refine Ev.neg (by omega) (Ev.bind hfin (Ev.pos (by simpa using hfb) ?_))
        have hk := (skip_ev s (by omega) s.size 0 (by omega) (by omega)).1 1 0
        have hb0 : blk false (s.data.toList.drop 0) 0 1 0 = (0, 1, 0) := by
          have h10 : ¬ c.toNat = 10 := fun e => by simp [blankN, e] at h4
          have hib : isBlank c = false := by rw [blank_isBlank c h10]; exact h4
          rw [List.drop_zero, hL]
          unfold blk
          rw [if_neg h10, if_neg (by simp), if_neg (by simp [hib]), if_neg h5]
        rw [hb0] at hk
        unfold latchkeyref05_skip.f
        refine Ev.bind hk (Ev.pos rfl ?_)
        have hp := piece_ev s (by omega) 0 c T (by rw [List.drop_zero, hL]) h4 h5 hok
        refine Ev.bind hp (Ev.pos (by simp only; omega) (Ev.const ?_))
        rw [kindF_eq]
        simp only [Option.some.injEq, hn]
        rw [Bool.eq_iff_iff]; simp
      · have : (true && (decide ((nxm (c :: T)).1 = T.length + 1) && decide (kindF (c :: T) = kind))) = false := by simp [hn]
        rw [this]
        by_cases h1 : p < s.size
        · exact Ev.pos (by omega) (Ev.pure _)
        refine Ev.neg (by omega) (Ev.bind hfin ?_)
        by_cases h2 : (finS st).toList = []
        · have hb : badst st = false := by rw [← hfb]; simp [h2]
          refine Ev.pos h2 ?_
          have hk := (skip_ev s (by omega) s.size 0 (by omega) (by omega)).1 1 0
          have hb0 : blk false (s.data.toList.drop 0) 0 1 0 = (0, 1, 0) := by
            have h10 : ¬ c.toNat = 10 := fun e => by simp [blankN, e] at h4
            have hib : isBlank c = false := by rw [blank_isBlank c h10]; exact h4
            rw [List.drop_zero, hL]
            unfold blk
            rw [if_neg h10, if_neg (by simp), if_neg (by simp [hib]), if_neg h5]
          rw [hb0] at hk
          unfold latchkeyref05_skip.f
          refine Ev.bind hk (Ev.pos rfl ?_)
          have hp := piece_ev s (by omega) 0 c T (by rw [List.drop_zero, hL]) h4 h5 hok
          exact Ev.bind hp (Ev.neg (by simp only; omega) (Ev.pure _))
        · exact Ev.neg h2 (Ev.pure _)
theorem ident_word_eq (s : ByteArray) : ident_word.f s = some (wordsL.contains s.data.toList) := word_eq s
theorem ident_lower_eq (c : Nat) : ident_lower.f (c : Int) = some (smallN c) := by
  unfold ident_lower.f smallN
  by_cases h : 97 ≤ c
  · rw [if_pos (by omega)]; simp [h]; omega
  · rw [if_neg (by omega)]; simp [h]
theorem ident_digit_eq (c : Nat) : ident_digit.f (c : Int) = some (digitN c) := by
  unfold ident_digit.f digitN
  by_cases h : 48 ≤ c
  · rw [if_pos (by omega)]; simp [h]; omega
  · rw [if_neg (by omega)]; simp [h]
def nameF (L : List UInt8) : Bool := match L with
  | [] => false
  | c :: T => decide (T.length + 1 ≤ 32) && (smallN c.toNat && (!(wordsL.contains (c :: T)) && (c :: T).all rowB))
theorem name_loop (s : ByteArray) (hs : s.size ≤ 32) : ∀ (N i : Nat), s.size - i ≤ N → i ≤ s.size → Ev (fun k => ident_Name.l0 k s (s.size : Int) (i : Int)) ((s.data.toList.drop i).all rowB) := by
  intro N
  induction N with
  | zero =>
    intro i h1 h2
    refine Ev.succ ?_
    unfold ident_Name.l0
    rw [drop_nil (by omega)]
    exact Ev.neg (by omega) (Ev.pure _)
  | succ N ih =>
    intro i h1 h2
    refine Ev.succ ?_
    unfold ident_Name.l0
    by_cases h : i < s.size
    · obtain ⟨c, T, e1, e2, e3, e4⟩ := drop_cons h
      refine Ev.pos (by omega) (Ev.pos (by omega) (Ev.pos (by omega) ?_))
      rw [e4, e1, List.all_cons, rowB_within]
      unfold withinN
      have hn := ih (i + 1) (by omega) (by omega)
      rw [e2] at hn
      rw [tk_nat (by omega)]
      refine Ev.bind (Ev.const (ident_lower_eq c.toNat)) ?_
      cases hs1 : smallN c.toNat with
      | true => exact Ev.pos rfl (by simpa using hn)
      | false =>
        refine Ev.neg (by simp) (Ev.bind (Ev.const (ident_digit_eq c.toNat)) ?_)
        cases hs2 : digitN c.toNat with
        | true => exact Ev.pos rfl (by simpa using hn)
        | false =>
          refine Ev.neg (by simp) ?_
          by_cases h95 : c.toNat = 95
          · exact Ev.pos (by omega) (by simpa [h95] using hn)
          · exact Ev.neg (by omega) (Ev.const (by simp [h95]))
    · rw [drop_nil h]
      exact Ev.neg (by omega) (Ev.pure _)
theorem name_ev (s : ByteArray) (hb : s.size ≤ 140737488351232) : Ev (fun k => ident_Name.f k s) (nameF s.data.toList) := by
  unfold ident_Name.f
  have hlen : s.data.toList.length = s.size := len_toList s
  have jt : ∀ v : Bool, v = false → Ev (fun k => ident_Name.j0 k s true) v := by
    intro v hv
    refine Ev.succ ?_
    unfold ident_Name.j0
    exact Ev.pos rfl (Ev.const (by rw [hv]))
  cases hL : s.data.toList with
  | nil => exact Ev.pos (by rw [Lib.toList_data, hL]) (jt _ rfl)
  | cons c T =>
    rw [hL] at hlen
    simp only [List.length_cons] at hlen
    refine Ev.neg (by rw [Lib.toList_data, hL]; simp) ?_
    unfold nameF
    by_cases h1 : T.length + 1 ≤ 32
    · refine Ev.neg (by omega) (Ev.pos (by omega) ?_)
      rw [show bt s 0 = (c.toNat : Int) from bt_cons (n := 0) hL rfl]
      refine Ev.bind (Ev.const (ident_lower_eq c.toNat)) ?_
      cases hs1 : smallN c.toNat with
      | false => exact Ev.neg (by simp) (jt _ (by simp only [hs1, Bool.false_and, Bool.and_false]))
      | true =>
        refine Ev.pos rfl (Ev.bind (Ev.const (ident_word_eq s)) ?_)
        rw [hL]
        cases hw : wordsL.contains (c :: T) with
        | true => exact jt _ (by simp only [hs1, hw, Bool.not_true, Bool.false_and, Bool.and_false])
        | false =>
          refine Ev.succ ?_
          unfold ident_Name.j0
          refine Ev.neg (by simp) ?_
          have := name_loop s (by omega) s.size 0 (by omega) (by omega)
          rw [List.drop_zero, hL] at this
          simp only [hs1, hw, Bool.not_false, Bool.true_and, h1, decide_true]
          exact this
    · exact Ev.pos (by omega) (jt _ (by simp [h1]))
theorem oneK_cons (c : UInt8) (T : List UInt8) (kind : Int) : oneK (c :: T) kind = ((!(blankN c.toNat) && !(decide (c.toNat = 47 ∧ T.head? = some 47))) && ((nxm (c :: T)).2 && (decide ((nxm (c :: T)).1 = T.length + 1) && decide (kindF (c :: T) = kind)))) := rfl
theorem all_takeWhile : ∀ (L : List UInt8), (L.takeWhile rowB).length = L.length ↔ L.all rowB = true
  | [] => by simp
  | c :: T => by
    by_cases h : rowB c = true
    · rw [List.takeWhile_cons_of_pos h]; simp only [List.length_cons, Nat.add_right_cancel_iff, List.all_cons, h, Bool.true_and]; exact all_takeWhile T
    · rw [List.takeWhile_cons_of_neg h]; simp [h]
theorem rl_le (L : List UInt8) : rl L ≤ L.length := by unfold rl; exact (List.takeWhile_sublist _).length_le
theorem kindF_cons (c : UInt8) (T : List UInt8) : kindF (c :: T) = if smallN c.toNat = true then (if wordsL.contains ((c :: T).take (rl (c :: T))) = true then 2 else 1) else if digB c = true then ((numF (c :: T)).2.1 : Int) else if c.toNat = 34 then 5 else 6 := by
  unfold kindF
  rw [tokF_cons]
  split
  · rfl
  split
  · rfl
  split <;> rfl
theorem small_facts : ∀ c : Fin 256, smallN c.val = true → blankN c.val = false ∧ c.val ≠ 47 := by decide +kernel
theorem mark_facts : ∀ c : Fin 256, (cmpN c.val = true ∨ plainN c.val = true) → smallN c.val = false ∧ digitN c.val = false ∧ c.val ≠ 34 ∧ blankN c.val = false := by decide +kernel
theorem oneK_small (c : UInt8) (T : List UInt8) (kind : Int) (hs : smallN c.toNat = true) (hl : T.length + 1 ≤ 32) :
    oneK (c :: T) kind = ((c :: T).all rowB && decide ((if wordsL.contains (c :: T) = true then (2 : Int) else 1) = kind)) := by
  obtain ⟨f1, f2⟩ := small_facts ⟨c.toNat, c.toNat_lt⟩ hs
  simp only at f1 f2
  have hr := rl_le (c :: T)
  simp only [List.length_cons] at hr
  rw [oneK_cons]
  rw [nxm_cons, if_pos hs, if_neg (by omega), kindF_cons, if_pos hs]
  simp only [f1, f2, false_and, decide_false, Bool.not_false, Bool.true_and]
  by_cases h : rl (c :: T) = T.length + 1
  · have ha : (c :: T).all rowB = true := (all_takeWhile (c :: T)).1 (by simpa [rl] using h)
    rw [ha, h, List.take_of_length_le (by simp)]
    simp
  · have ha : (c :: T).all rowB = false := by
      cases hh : (c :: T).all rowB with
      | false => rfl
      | true => exact absurd ((all_takeWhile (c :: T)).2 hh) (by simpa [rl] using h)
    rw [ha]; simp [h]
theorem oneK_notsmall (c : UInt8) (T : List UInt8) (kind : Int) (hs : smallN c.toNat = false) (hk : kind = 1 ∨ kind = 2) : oneK (c :: T) kind = false := by
  rw [oneK_cons]
  have : decide (kindF (c :: T) = kind) = false := by
    rw [kindF_cons, if_neg (by simp [hs])]
    have := numF_kind (c :: T)
    split
    · simp; omega
    · split <;> simp <;> omega
  rw [this]; simp
theorem name_one (L : List UInt8) : nameF L = (decide (L.length ≤ 32) && oneK L 1) := by
  cases L with
  | nil => rfl
  | cons c T =>
    unfold nameF
    simp only [List.length_cons]
    by_cases hl : T.length + 1 ≤ 32
    · cases hs : smallN c.toNat with
      | false => rw [oneK_notsmall c T 1 hs (Or.inl rfl)]; simp
      | true =>
        rw [oneK_small c T 1 hs hl]
        cases hw : wordsL.contains (c :: T) with
        | false => simp
        | true => simp
    · simp [hl]
theorem words_all : ∀ L ∈ wordsL, L.length ≤ 32 ∧ oneK L 2 = true := by decide +kernel
theorem word_one (L : List UInt8) : wordsL.contains L = (decide (L.length ≤ 32) && oneK L 2) := by
  cases hw : wordsL.contains L with
  | true =>
    obtain ⟨h1, h2⟩ := words_all L (by simpa using hw)
    simp [h1, h2]
  | false =>
    symm
    cases L with
    | nil => rfl
    | cons c T =>
      simp only [List.length_cons]
      by_cases hl : T.length + 1 ≤ 32
      · cases hs : smallN c.toNat with
        | false => rw [oneK_notsmall c T 2 hs (Or.inr rfl)]; simp
        | true => rw [oneK_small c T 2 hs hl, hw]; simp
      · simp [hl]
def markT (L : List UInt8) : Bool := match L with
  | [] => false
  | c :: T => decide (T.length + 1 < 3) && decide (mkF (c :: T) = ((T.length + 1 : Nat) : Int))
theorem mark_one (L : List UInt8) : markT L = (decide (L.length ≤ 32) && oneK L 6) := by
  cases L with
  | nil => rfl
  | cons c T =>
    unfold markT
    simp only [List.length_cons]
    by_cases hp : cmpN c.toNat = true ∨ plainN c.toNat = true
    · obtain ⟨f1, f2, f3, f4⟩ := mark_facts ⟨c.toNat, c.toNat_lt⟩ hp
      simp only at f1 f2 f3 f4
      have hd : digB c = false := f2
      have en : nxm (c :: T) = if mkF (c :: T) < 1 then ((-(mkF (c :: T))).toNat, false) else ((mkF (c :: T)).toNat, true) := by
        rw [nxm_cons, if_neg (by simp [f1]), if_neg (by simp [hd]), if_neg f3]
      have ek : kindF (c :: T) = 6 := by rw [kindF_cons, if_neg (by simp [f1]), if_neg (by simp [hd]), if_neg f3]
      rw [oneK_cons, en, ek]
      have hm : mkF (c :: T) ≤ 2 := by
        rw [mkF_cons]; split
        · split
          · omega
          · split <;> omega
        · split <;> omega
      by_cases hr : c.toNat = 47 ∧ T.head? = some 47
      · have e1 : mkF (c :: T) = 1 := by
          rw [mkF_cons, if_neg (by simp [cmpN, hr.1]), if_pos (by simp [plainN, hr.1])]
        have e2 : T.length ≠ 0 := by
          intro e
          have : T = [] := List.length_eq_zero_iff.1 e
          rw [this] at hr; simp at hr
        rw [e1]
        simp only [hr, f4]
        simp; omega
      · simp only [f4, hr, decide_false, Bool.not_false, Bool.true_and]
        by_cases h1 : mkF (c :: T) < 1
        · rw [if_pos h1]
          simp; omega
        · rw [if_neg h1]
          simp only [decide_true, Bool.and_true, Bool.true_and]
          rw [Bool.eq_iff_iff]; simp; omega
    · have h0 : mkF (c :: T) = 0 := by
        rw [mkF_cons, if_neg (fun h => hp (Or.inl h)), if_neg (fun h => hp (Or.inr h))]
      have : oneK (c :: T) 6 = false := by
        rw [oneK_cons]
        rw [nxm_cons, kindF_cons]
        by_cases a1 : smallN c.toNat = true
        · rw [if_pos a1, if_pos a1]
          split <;> split <;> simp
        rw [if_neg a1, if_neg a1]
        by_cases a2 : digB c = true
        · rw [if_pos a2, if_pos a2]
          have := numF_kind (c :: T)
          have : decide (((numF (c :: T)).2.1 : Int) = 6) = false := by simp; omega
          rw [this]; simp
        rw [if_neg a2, if_neg a2]
        by_cases a3 : c.toNat = 34
        · rw [if_pos a3, if_pos a3]; simp
        rw [if_neg a3, if_neg a3, h0]
        simp
      rw [this, h0]
      simp; omega
def mayF (kind : Int) (s : ByteArray) (last : Bool) : Bool :=
  if kind = 1 ∨ kind = 2 ∨ kind = 6 then decide (s.data.toList.length ≤ 32) && oneK s.data.toList kind
  else if kind = 3 then decide (s.data.toList ≠ [] ∧ dl s.data.toList = s.data.toList.length)
  else if kind = 4 then realF s.data.toList
  else if kind = 5 then true
  else decide (kind = 7) && (decide (s.data.toList = []) && last)
theorem mayF_one {kind : Int} {s : ByteArray} {last : Bool} (h : kind = 1 ∨ kind = 2 ∨ kind = 6) : mayF kind s last = (decide (s.data.toList.length ≤ 32) && oneK s.data.toList kind) := by
  unfold mayF; rw [if_pos h]
theorem mayF_3 {kind : Int} {s : ByteArray} {last : Bool} (h : kind = 3) : mayF kind s last = decide (s.data.toList ≠ [] ∧ dl s.data.toList = s.data.toList.length) := by
  unfold mayF; rw [if_neg (by omega), if_pos h]
theorem mayF_4 {kind : Int} {s : ByteArray} {last : Bool} (h : kind = 4) : mayF kind s last = realF s.data.toList := by
  unfold mayF; rw [if_neg (by omega), if_neg (by omega), if_pos h]
theorem mayF_5 {kind : Int} {s : ByteArray} {last : Bool} (h : kind = 5) : mayF kind s last = true := by
  unfold mayF; rw [if_neg (by omega), if_neg (by omega), if_neg (by omega), if_pos h]
theorem mayF_x {kind : Int} {s : ByteArray} {last : Bool} (h : ¬ (kind = 1 ∨ kind = 2 ∨ kind = 6)) (h3 : kind ≠ 3) (h4 : kind ≠ 4) (h5 : kind ≠ 5) : mayF kind s last = (decide (kind = 7) && (decide (s.data.toList = []) && last)) := by
  unfold mayF; rw [if_neg h, if_neg h3, if_neg h4, if_neg h5]
theorem last_ev {kind : Int} {s : ByteArray} {last : Bool} : Ev (fun _ => if kind = 7 then (if s.toList = ([] : List UInt8) then some last else some false) else some false) (decide (kind = 7) && (decide (s.data.toList = []) && last)) := by
  by_cases h7 : kind = 7
  · refine Ev.pos h7 ?_
    rw [Lib.toList_data]
    by_cases h0 : s.data.toList = []
    · exact Ev.pos h0 (Ev.const (by rw [h7, h0]; simp))
    · exact Ev.neg h0 (Ev.const (by rw [show decide (s.data.toList = []) = false by simpa using h0]; simp))
  · exact Ev.neg h7 (Ev.const (by rw [show decide (kind = 7) = false by simpa using h7]; simp))
theorem refmay_ev (kind : Int) (s : ByteArray) (l c : Int) (last : Bool) (hs : s.size ≤ 140737488351232) : Ev (fun k => latchkeyref05_May.f k kind s l c last) (mayF kind s last) := by
  have hlen : s.data.toList.length = s.size := len_toList s
  have jone : (kind = 1 ∨ kind = 2 ∨ kind = 6) → Ev (fun k => latchkeyref05_May.j0 k last kind true kind s l c) (mayF kind s last) := by
    intro h
    refine Ev.val (Ev.succ ?_) (mayF_one h).symm
    unfold latchkeyref05_May.j0
    rw [hlen]
    refine Ev.pos rfl ?_
    by_cases h1 : s.size ≤ 32
    · refine Ev.pos (by omega) (Ev.bind (one_ev s h1 kind) (Ev.const ?_))
      rw [show decide (s.size ≤ 32) = true by simpa using h1]; simp
    · exact Ev.neg (by omega) (Ev.const (by rw [show decide (s.size ≤ 32) = false by simpa using h1]; simp))
  have jrest : ¬ (kind = 1 ∨ kind = 2 ∨ kind = 6) → Ev (fun k => latchkeyref05_May.j0 k last kind false kind s l c) (mayF kind s last) := by
    intro h
    by_cases h3 : kind = 3
    · refine Ev.val (Ev.succ ?_) (mayF_3 h3).symm
      unfold latchkeyref05_May.j0
      refine Ev.neg (by simp) (Ev.pos h3 ?_)
      have := rd_ev s hs 0 (by omega)
      rw [List.drop_zero, Nat.zero_add] at this
      refine Ev.bind this ?_
      rw [Lib.toList_data, hlen]
      by_cases h4 : dl s.data.toList = s.size
      · refine Ev.pos (by omega) (Ev.const ?_)
        simp only [Option.some.injEq, h4, and_true]
        rw [Bool.eq_iff_iff, bne_iff_ne, decide_eq_true_eq]
      · exact Ev.neg (by omega) (Ev.const (by simp only [h4, and_false, decide_false]))
    by_cases h4 : kind = 4
    · refine Ev.val (Ev.succ ?_) (mayF_4 h4).symm
      unfold latchkeyref05_May.j0
      exact Ev.neg (by simp) (Ev.neg h3 (Ev.pos h4 (Ev.bind (realPiece_ev s hs) (Ev.pure _))))
    by_cases h5 : kind = 5
    · refine Ev.val (Ev.succ ?_) (mayF_5 h5).symm
      unfold latchkeyref05_May.j0
      exact Ev.neg (by simp) (Ev.neg h3 (Ev.neg h4 (Ev.pos h5 (Ev.pure _))))
    refine Ev.val (Ev.succ ?_) (mayF_x h h3 h4 h5).symm
    unfold latchkeyref05_May.j0
    exact Ev.neg (by simp) (Ev.neg h3 (Ev.neg h4 (Ev.neg h5 last_ev)))
  unfold latchkeyref05_May.f
  by_cases k1 : kind = 1
  · refine Ev.pos k1 ?_
    rw [show (kind == 1) = true by simp [k1]]
    exact jone (Or.inl k1)
  refine Ev.neg k1 ?_
  by_cases k2 : kind = 2
  · refine Ev.pos k2 ?_
    rw [show (kind == 2) = true by simp [k2]]
    exact jone (Or.inr (Or.inl k2))
  refine Ev.neg k2 ?_
  by_cases k6 : kind = 6
  · rw [show (kind == 6) = true by simp [k6]]
    exact jone (Or.inr (Or.inr k6))
  · rw [show (kind == 6) = false by simp [k6]]
    exact jrest (by omega)
theorem tokdigit_eq (c : Nat) (hc : c < 256) : tokens_digit.f (wrap32 (c : Int)) = some (digitN c) := by
  have : wrap32 (c : Int) = c := by unfold wrap32; omega
  rw [this]
  unfold tokens_digit.f digitN
  by_cases h : 48 ≤ c
  · rw [if_pos (by omega)]; simp [h]; omega
  · rw [if_neg (by omega)]; simp [h]
theorem dl_zero (c : UInt8) (T : List UInt8) : (dl (c :: T) = 0) ↔ digB c = false := by
  by_cases h : digB c = true
  · rw [dl_cons_pos h]; simp [h]
  · rw [dl_cons_neg h]; simp [h]
theorem tokmay_ev (kind : Int) (s : ByteArray) (l c : Int) (last : Bool) (hs : s.size ≤ 140737488351232) : Ev (fun k => tokens_may.f k kind s l c last) (mayF kind s last) := by
  have hlen : s.data.toList.length = s.size := len_toList s
  have jnum : ∀ kk : Nat, kind = (kk : Int) → Ev (fun k => tokens_may.j0 k last s kind true kind s l c) (numTok s.data.toList kk) := by
    intro kk hk
    refine Ev.succ ?_
    unfold tokens_may.j0
    refine Ev.pos rfl ?_
    rw [Lib.toList_data]
    cases hL : s.data.toList with
    | nil => exact Ev.pos rfl (Ev.const (by simp [numTok, dl]))
    | cons d T =>
      rw [hL] at hlen
      simp only [List.length_cons] at hlen
      refine Ev.neg (by simp) (Ev.pos (by omega) ?_)
      rw [show bt s 0 = (d.toNat : Int) from bt_cons (n := 0) hL rfl]
      refine Ev.bind (Ev.const (tokdigit_eq d.toNat d.toNat_lt)) ?_
      unfold numTok
      by_cases hd : digB d = true
      · have h0 : dl (d :: T) ≠ 0 := fun e => by rw [(dl_zero d T).1 e] at hd; cases hd
        refine Ev.pos hd ?_
        have hn : tokens_number.f s = some (((numF (d :: T)).1 : Int), ((numF (d :: T)).2.1 : Int), (numF (d :: T)).2.2) := by
          unfold tokens_number.f; rw [if_pos hs, hL]
        refine Ev.bind (Ev.const hn) ?_
        cases hok : (numF (d :: T)).2.2 with
        | false => exact Ev.neg (by simp) (Ev.const (by simp))
        | true =>
          refine Ev.pos rfl ?_
          by_cases he : (numF (d :: T)).1 = s.size
          · refine Ev.pos (by simp only; omega) (Ev.const ?_)
            simp only [List.length_cons, hlen, he, h0, hk, Option.some.injEq]
            rw [Bool.eq_iff_iff]; simp; omega
          · exact Ev.neg (by simp only; omega) (Ev.const (by simp [hlen, he]))
      · have h0 : dl (d :: T) = 0 := (dl_zero d T).2 (by simpa using hd)
        exact Ev.neg hd (Ev.const (by simp [h0]))
  have jrest : kind ≠ 1 → kind ≠ 2 → kind ≠ 3 → kind ≠ 4 → Ev (fun k => tokens_may.j0 k last s kind false kind s l c) (mayF kind s last) := by
    intro k1 k2 k3 k4
    by_cases k5 : kind = 5
    · refine Ev.val (Ev.succ ?_) (mayF_5 k5).symm
      unfold tokens_may.j0
      exact Ev.neg (by simp) (Ev.pos k5 (Ev.pure _))
    by_cases k6 : kind = 6
    · refine Ev.val (Ev.succ ?_) (mayF_one (Or.inr (Or.inr k6))).symm
      rw [k6, ← mark_one]
      unfold tokens_may.j0
      refine Ev.neg (by simp) (Ev.neg (by omega) (Ev.pos rfl ?_))
      rw [Lib.toList_data]
      cases hL : s.data.toList with
      | nil => exact Ev.pos rfl (Ev.pure _)
      | cons d T =>
        rw [hL] at hlen
        simp only [List.length_cons] at hlen
        refine Ev.neg (by simp) ?_
        unfold markT
        by_cases h3 : s.size < 3
        · refine Ev.pos (by omega) (Ev.bind (mark_ev s d T hL) (Ev.const ?_))
          simp only [Option.some.injEq, hlen, h3, decide_true, Bool.true_and]
          rw [Bool.eq_iff_iff]; simp
        · refine Ev.neg (by omega) (Ev.const ?_)
          simp; omega
    refine Ev.val (Ev.succ ?_) (mayF_x (by omega) k3 k4 k5).symm
    unfold tokens_may.j0
    exact Ev.neg (by simp) (Ev.neg k5 (Ev.neg k6 last_ev))
  unfold tokens_may.f
  by_cases k1 : kind = 1
  · refine Ev.pos k1 (Ev.bind (name_ev s hs) (Ev.const ?_))
    unfold mayF
    rw [if_pos (Or.inl k1), k1, name_one]
  refine Ev.neg k1 ?_
  by_cases k2 : kind = 2
  · refine Ev.pos k2 (Ev.bind (Ev.const (word_eq s)) (Ev.const ?_))
    unfold mayF
    rw [if_pos (Or.inr (Or.inl k2)), k2, word_one]
  refine Ev.neg k2 ?_
  by_cases k3 : kind = 3
  · refine Ev.pos k3 ?_
    rw [show (kind == 3) = true by simp [k3]]
    refine (jnum 3 k3).val ?_
    unfold mayF
    rw [if_neg (by omega), if_pos k3, intTok]
  refine Ev.neg k3 ?_
  by_cases k4 : kind = 4
  · rw [show (kind == 4) = true by simp [k4]]
    refine (jnum 4 k4).val ?_
    unfold mayF
    rw [if_neg (by omega), if_neg k3, if_pos k4, realTok]
  · rw [show (kind == 4) = false by simp [k4]]
    exact jrest k1 k2 k3 k4
def hexT : ByteArray := ⟨#[48, 49, 50, 51, 52, 53, 54, 55, 56, 57, 97, 98, 99, 100, 101, 102]⟩
def escQ (c : Nat) : List Int :=
  if c = 34 ∨ c = 92 then [92, (c : Int)] else if c = 10 then [92, 110] else if 32 ≤ c ∧ c ≤ 126 then [(c : Int)]
  else [92, 120, bt hexT ((c / 16 : Nat) : Int), bt hexT ((c % 16 : Nat) : Int)]
def quoteB : List UInt8 → List Int
  | [] => []
  | c :: t => escQ c.toNat ++ quoteB t
def quoteF (L : List UInt8) : List Int := 34 :: (quoteB L ++ [34])
theorem quoteF_len (L : List UInt8) : (quoteF L).length = (quoteB L).length + 2 := by simp [quoteF]
theorem nib_facts : ∀ c : Fin 256, (c.val : Int) / 16 = ((c.val / 16 : Nat) : Int) ∧ Go.bits .and .u8 (c.val : Int) 15 = ((c.val % 16 : Nat) : Int) ∧ Int.tdiv (c.val : Int) 16 % 256 = ((c.val / 16 : Nat) : Int) ∧ Int.tmod (c.val : Int) 16 = ((c.val % 16 : Nat) : Int) ∧ c.val / 16 < 16 ∧ c.val % 16 < 16 := by decide +kernel
theorem escQ_len (c : Nat) : 1 ≤ (escQ c).length ∧ (escQ c).length ≤ 4 := by
  unfold escQ
  split
  · simp
  split
  · simp
  split <;> simp
theorem tokquote_loop (s : ByteArray) (hs : s.size ≤ 140737488351232) : ∀ (N i : Nat) (out : List Int), s.size - i ≤ N → i ≤ s.size → out.length ≤ 200000 →
    ∃ q, Ev (fun k => tokens_quote.l0 k out s (i : Int)) q ∧ (out.length + (quoteB (s.data.toList.drop i)).length + 1 ≤ 65536 → q = out ++ (quoteB (s.data.toList.drop i) ++ [34])) ∧ (65536 < out.length + (quoteB (s.data.toList.drop i)).length + 1 → 65536 < q.length) ∧ q.length ≤ max 65541 (out.length + 1) := by
  intro N
  have stop : ∀ (i : Nat) (out : List Int), out.length ≤ 200000 → Ev (fun k => tokens_quote.j1 k out s (i : Int) false) (out ++ [34]) := by
    intro i out ho
    refine Ev.succ ?_
    unfold tokens_quote.j1
    exact Ev.neg (by simp) (Ev.pos (by omega) (Ev.pure _))
  induction N with
  | zero =>
    intro i out h1 h2 ho
    refine ⟨out ++ [34], ?_, ?_, ?_, ?_⟩
    · refine Ev.succ ?_
      unfold tokens_quote.l0
      exact Ev.neg (by omega) (stop i out ho)
    · intro _; rw [drop_nil (by omega)]; simp [quoteB]
    · rw [drop_nil (by omega)]; simp [quoteB]
    · simp; omega
  | succ N ih =>
    intro i out h1 h2 ho
    by_cases h : i < s.size
    rotate_left
    · refine ⟨out ++ [34], ?_, ?_, ?_, ?_⟩
      · refine Ev.succ ?_
        unfold tokens_quote.l0
        exact Ev.neg (by omega) (stop i out ho)
      · intro _; rw [drop_nil h]; simp [quoteB]
      · rw [drop_nil h]; simp [quoteB]
      · simp; omega
    by_cases hl : out.length ≤ 65536
    rotate_left
    · refine ⟨out ++ [34], ?_, ?_, ?_, ?_⟩
      · refine Ev.succ ?_
        unfold tokens_quote.l0
        refine Ev.pos (by omega) ?_
        rw [show decide ((out.length : Int) ≤ 65536) = false by simp; omega]
        exact stop i out ho
      · intro h; omega
      · intro _; simp; omega
      · simp; omega
    obtain ⟨c, T, e1, e2, e3, e4⟩ := drop_cons h
    have hE := escQ_len c.toNat
    obtain ⟨q, q1, q2, q3, q4⟩ := ih (i + 1) (out ++ escQ c.toNat) (by omega) (by omega) (by rw [List.length_append]; omega)
    rw [e2] at q2 q3
    rw [List.length_append] at q2 q3 q4
    refine ⟨q, ?_, ?_, ?_, ?_⟩
    · refine Ev.succ ?_
      unfold tokens_quote.l0
      refine Ev.pos (by omega) ?_
      rw [show decide ((out.length : Int) ≤ 65536) = true by simp; omega]
      refine Ev.succ ?_
      unfold tokens_quote.j1
      refine Ev.pos rfl (Ev.pos (by omega) (Ev.pos (by omega) ?_))
      rw [e4]
      have hc := c.toNat_lt
      obtain ⟨f1, f2, _, _, f5, f6⟩ := nib_facts ⟨c.toNat, hc⟩
      simp only at f1 f2 f5 f6
      have hq : ∀ b : Bool, (b = true ↔ (c.toNat = 34 ∨ c.toNat = 92)) → Ev (fun k => tokens_quote.j2 k out s (i : Int) (c.toNat : Int) b) q := by
        intro b hb
        refine Ev.succ ?_
        unfold tokens_quote.j2
        rw [tk_nat (by omega)]
        by_cases hp : c.toNat = 34 ∨ c.toNat = 92
        · refine Ev.pos (hb.2 hp) (Ev.bind (Ev.pure _) (Ev.pos (by simp; omega) ?_))
          have : escQ c.toNat = [92, (c.toNat : Int)] := by unfold escQ; rw [if_pos hp]
          rw [this] at q1; exact q1
        refine Ev.neg (fun e => hp (hb.1 e)) ?_
        by_cases h10 : c.toNat = 10
        · refine Ev.pos (by omega) (Ev.bind (Ev.pure _) (Ev.pos (by simp; omega) ?_))
          have : escQ c.toNat = [92, 110] := by unfold escQ; rw [if_neg hp, if_pos h10]
          rw [this] at q1; exact q1
        refine Ev.neg (by omega) ?_
        by_cases hr : 32 ≤ c.toNat ∧ c.toNat ≤ 126
        · refine Ev.pos (by omega) (Ev.pos (by omega) (Ev.pos (by omega) ?_))
          have : escQ c.toNat = [(c.toNat : Int)] := by unfold escQ; rw [if_neg hp, if_neg h10, if_pos hr]
          rw [this] at q1; exact q1
        have he : escQ c.toNat = [92, 120, bt hexT ((c.toNat / 16 : Nat) : Int), bt hexT ((c.toNat % 16 : Nat) : Int)] := by unfold escQ; rw [if_neg hp, if_neg h10, if_neg hr]
        rw [he] at q1
        rw [f1, f2]
        by_cases h32 : 32 ≤ c.toNat
        · exact Ev.pos (by omega) (Ev.neg (by omega) (Ev.pos (by omega) (Ev.pos (by omega) (Ev.pos (by omega) (Ev.pos (by omega) (Ev.bind (Ev.pure _) (Ev.pos (by simp; omega) q1)))))))
        · exact Ev.neg (by omega) (Ev.pos (by omega) (Ev.pos (by omega) (Ev.pos (by omega) (Ev.pos (by omega) (Ev.bind (Ev.pure _) (Ev.pos (by simp; omega) q1))))))
      by_cases h34 : c.toNat = 34
      · exact Ev.pos (by omega) (hq true (by simp [h34]))
      · refine Ev.neg (by omega) (hq _ ?_)
        simp [h34]; omega
    · intro hle
      rw [e1]
      unfold quoteB
      rw [e1] at hle
      unfold quoteB at hle
      rw [List.length_append] at hle
      rw [q2 (by omega)]
      simp
    · intro hle
      rw [e1] at hle
      unfold quoteB at hle
      rw [List.length_append] at hle
      exact q3 (by omega)
    · omega
theorem tokquote_ev (s : ByteArray) (hs : s.size ≤ 140737488351232) (out : List Int) (ho : out.length ≤ 65537) :
    ∃ q, Ev (fun k => tokens_quote.f k out s) q ∧ (out.length + (quoteF s.data.toList).length ≤ 65536 → q = out ++ quoteF s.data.toList) ∧ (65536 < out.length + (quoteF s.data.toList).length → 65536 < q.length) := by
  obtain ⟨q, q1, q2, q3, q4⟩ := tokquote_loop s hs s.size 0 (out ++ [34]) (by omega) (by omega) (by simp; omega)
  rw [List.drop_zero] at q2 q3
  simp only [List.length_append, List.length_cons, List.length_nil] at q2 q3
  refine ⟨q, ?_, ?_, ?_⟩
  · unfold tokens_quote.f
    exact Ev.pos (by omega) q1
  · intro h; rw [quoteF_len] at h; rw [q2 (by omega)]; simp [quoteF]
  · intro h; rw [quoteF_len] at h; exact q3 (by omega)
theorem size_loop (s : ByteArray) (hs : s.size ≤ 140737488351232) : ∀ (N i m : Nat), s.size - i ≤ N → i ≤ s.size → m ≤ 70000 →
    ∃ r : Nat, Ev (fun k => latchkeyref05_size.l0 k s (m : Int) (i : Int)) (r : Int) ∧ (m + (quoteB (s.data.toList.drop i)).length ≤ 65536 → r = m + (quoteB (s.data.toList.drop i)).length) ∧ (65536 < m + (quoteB (s.data.toList.drop i)).length → 65536 < r) ∧ r ≤ max 65540 m := by
  intro N
  have stop : ∀ (i m : Nat), Ev (fun k => latchkeyref05_size.j1 k s (m : Int) (i : Int) false) (m : Int) := by
    intro i m
    refine Ev.succ ?_
    unfold latchkeyref05_size.j1
    exact Ev.neg (by simp) (Ev.pure _)
  induction N with
  | zero =>
    intro i m h1 h2 hm
    refine ⟨m, ?_, ?_, ?_, ?_⟩
    · refine Ev.succ ?_
      unfold latchkeyref05_size.l0
      exact Ev.neg (by omega) (stop i m)
    · intro _; rw [drop_nil (by omega)]; simp [quoteB]
    · rw [drop_nil (by omega)]; simp [quoteB]
    · omega
  | succ N ih =>
    intro i m h1 h2 hm
    by_cases h : i < s.size
    rotate_left
    · refine ⟨m, ?_, ?_, ?_, ?_⟩
      · refine Ev.succ ?_
        unfold latchkeyref05_size.l0
        exact Ev.neg (by omega) (stop i m)
      · intro _; rw [drop_nil h]; simp [quoteB]
      · rw [drop_nil h]; simp [quoteB]
      · omega
    by_cases hl : m ≤ 65536
    rotate_left
    · refine ⟨m, ?_, ?_, ?_, ?_⟩
      · refine Ev.succ ?_
        unfold latchkeyref05_size.l0
        refine Ev.pos (by omega) ?_
        rw [show decide ((m : Int) ≤ 65536) = false by simp; omega]
        exact stop i m
      · intro h; omega
      · intro _; omega
      · omega
    obtain ⟨c, T, e1, e2, e3, e4⟩ := drop_cons h
    have hE := escQ_len c.toNat
    obtain ⟨r, q1, q2, q3, q4⟩ := ih (i + 1) (m + (escQ c.toNat).length) (by omega) (by omega) (by omega)
    rw [e2] at q2 q3
    have hle : (quoteB (s.data.toList.drop i)).length = (escQ c.toNat).length + (quoteB T).length := by rw [e1, show quoteB (c :: T) = escQ c.toNat ++ quoteB T from rfl, List.length_append]
    refine ⟨r, ?_, ?_, ?_, ?_⟩
    · refine Ev.succ ?_
      unfold latchkeyref05_size.l0
      refine Ev.pos (by omega) ?_
      rw [show decide ((m : Int) ≤ 65536) = true by simp; omega]
      refine Ev.succ ?_
      unfold latchkeyref05_size.j1
      refine Ev.pos rfl (Ev.pos (by omega) (Ev.pos (by omega) ?_))
      rw [e4]
      have hc := c.toNat_lt
      have wr : ∀ a : Nat, a ≤ 4 → wrap64 ((m : Int) + (a : Int)) = ((m + a : Nat) : Int) := fun a ha => by rw [w64 (by omega) (by omega)]; omega
      have hq : ∀ b : Bool, (b = true ↔ (c.toNat = 34 ∨ c.toNat = 92 ∨ c.toNat = 10)) → Ev (fun k => latchkeyref05_size.j2 k s (m : Int) (i : Int) (c.toNat : Int) b) (r : Int) := by
        intro b hb
        refine Ev.succ ?_
        unfold latchkeyref05_size.j2
        rw [tk_nat (by omega)]
        by_cases hp : c.toNat = 34 ∨ c.toNat = 92 ∨ c.toNat = 10
        · refine Ev.pos (hb.2 hp) ?_
          have : (escQ c.toNat).length = 2 := by
            unfold escQ; split
            · rfl
            · rw [if_pos (by omega)]; rfl
          rw [this] at q1
          have w2 := wr 2 (by omega)
          rw [show (m : Int) + ((2 : Nat) : Int) = (m : Int) + 2 by omega] at w2
          rw [w2]; exact q1
        refine Ev.neg (fun e => hp (hb.1 e)) ?_
        by_cases hr : 32 ≤ c.toNat ∧ c.toNat ≤ 126
        · refine Ev.pos (by omega) (Ev.pos (by omega) ?_)
          have : (escQ c.toNat).length = 1 := by unfold escQ; rw [if_neg (by omega), if_neg (by omega), if_pos hr]; rfl
          rw [this] at q1
          rw [tk_nat (by omega)]; exact q1
        have he : (escQ c.toNat).length = 4 := by unfold escQ; rw [if_neg (by omega), if_neg (by omega), if_neg hr]; rfl
        rw [he] at q1
        have w2 := wr 4 (by omega)
        rw [show (m : Int) + ((4 : Nat) : Int) = (m : Int) + 4 by omega] at w2
        rw [w2]
        by_cases h32 : 32 ≤ c.toNat
        · exact Ev.pos (by omega) (Ev.neg (by omega) q1)
        · exact Ev.neg (by omega) q1
      by_cases h34 : c.toNat = 34
      · exact Ev.pos (by omega) (hq true (by simp [h34]))
      refine Ev.neg (by omega) ?_
      by_cases h92 : c.toNat = 92
      · exact Ev.pos (by omega) (hq true (by simp [h92]))
      · refine Ev.neg (by omega) (hq _ ?_)
        simp [h34, h92]; omega
    · intro h; rw [hle] at h ⊢; rw [q2 (by omega)]; omega
    · intro h; rw [hle] at h; exact q3 (by omega)
    · omega
theorem size_ev (s : ByteArray) (hs : s.size ≤ 140737488351232) :
    ∃ r : Nat, Ev (fun k => latchkeyref05_size.f k s) (r : Int) ∧ ((quoteF s.data.toList).length ≤ 65536 → r = (quoteF s.data.toList).length) ∧ (65536 < (quoteF s.data.toList).length → 65536 < r) ∧ r ≤ 65540 := by
  obtain ⟨r, q1, q2, q3, q4⟩ := size_loop s hs s.size 0 2 (by omega) (by omega) (by omega)
  rw [List.drop_zero] at q2 q3
  refine ⟨r, q1, ?_, ?_, by omega⟩
  · intro h; rw [quoteF_len] at h ⊢; rw [q2 (by omega)]; omega
  · intro h; rw [quoteF_len] at h; exact q3 (by omega)
theorem refquote_loop (s : ByteArray) (hs : s.size ≤ 140737488351232) : ∀ (N i : Nat) (out : List Int), s.size - i ≤ N → i ≤ s.size → out.length + (quoteB (s.data.toList.drop i)).length ≤ 70000 →
    Ev (fun k => latchkeyref05_Quote.l0 k s out (i : Int)) (strOfNums (out ++ (quoteB (s.data.toList.drop i) ++ [34]))) := by
  intro N
  induction N with
  | zero =>
    intro i out h1 h2 ho
    rw [drop_nil (by omega)]
    refine Ev.succ ?_
    unfold latchkeyref05_Quote.l0
    exact Ev.neg (by omega) (Ev.pos (by omega) (Ev.const (by simp [quoteB])))
  | succ N ih =>
    intro i out h1 h2 ho
    by_cases h : i < s.size
    rotate_left
    · rw [drop_nil h]
      refine Ev.succ ?_
      unfold latchkeyref05_Quote.l0
      exact Ev.neg (by omega) (Ev.pos (by omega) (Ev.const (by simp [quoteB])))
    obtain ⟨c, T, e1, e2, e3, e4⟩ := drop_cons h
    have hE := escQ_len c.toNat
    rw [e1] at ho ⊢
    unfold quoteB at ho ⊢
    rw [List.length_append] at ho
    have q1 := ih (i + 1) (out ++ escQ c.toNat) (by omega) (by omega) (by rw [e2, List.length_append]; omega)
    rw [e2, List.append_assoc, ← List.append_assoc (escQ c.toNat)] at q1
    generalize strOfNums (out ++ (escQ c.toNat ++ quoteB T ++ [34])) = v at q1 ⊢
    refine Ev.succ ?_
    unfold latchkeyref05_Quote.l0
    refine Ev.pos (by omega) (Ev.pos (by omega) ?_)
    rw [e4]
    have hc := c.toNat_lt
    obtain ⟨_, _, f3, f4, f5, f6⟩ := nib_facts ⟨c.toNat, hc⟩
    simp only at f3 f4 f5 f6
    have hq : ∀ b : Bool, (b = true ↔ (c.toNat = 34 ∨ c.toNat = 92)) → Ev (fun k => latchkeyref05_Quote.j1 k s out (i : Int) (c.toNat : Int) b) v := by
      intro b hb
      refine Ev.succ ?_
      unfold latchkeyref05_Quote.j1
      rw [tk_nat (by omega)]
      by_cases hp : c.toNat = 34 ∨ c.toNat = 92
      · have : escQ c.toNat = [92, (c.toNat : Int)] := by unfold escQ; rw [if_pos hp]
        rw [this] at q1
        refine Ev.pos (hb.2 hp) (Ev.pos (by omega) (Ev.bind (Ev.pure _) (Ev.pos (by simp; omega) ?_)))
        simpa using q1
      refine Ev.neg (fun e => hp (hb.1 e)) ?_
      by_cases h10 : c.toNat = 10
      · have : escQ c.toNat = [92, 110] := by unfold escQ; rw [if_neg hp, if_pos h10]
        rw [this] at q1
        refine Ev.pos (by omega) (Ev.pos (by omega) (Ev.bind (Ev.pure _) (Ev.pos (by simp; omega) ?_)))
        simpa using q1
      refine Ev.neg (by omega) ?_
      by_cases hr : 32 ≤ c.toNat ∧ c.toNat ≤ 126
      · have : escQ c.toNat = [(c.toNat : Int)] := by unfold escQ; rw [if_neg hp, if_neg h10, if_pos hr]
        rw [this] at q1
        exact Ev.pos (by omega) (Ev.pos (by omega) (Ev.pos (by omega) q1))
      have he : escQ c.toNat = [92, 120, bt hexT ((c.toNat / 16 : Nat) : Int), bt hexT ((c.toNat % 16 : Nat) : Int)] := by unfold escQ; rw [if_neg hp, if_neg h10, if_neg hr]
      rw [he] at q1
      rw [f3, f4]
      have tail : Ev (fun k => latchkeyref05_Quote.l0 k s (((out ++ [92]) ++ [120] ++ [bt hexT ((c.toNat / 16 : Nat) : Int)]) ++ [bt hexT ((c.toNat % 16 : Nat) : Int)]) ((i + 1 : Nat) : Int)) v := by simpa using q1
      by_cases h32 : 32 ≤ c.toNat
      · exact Ev.pos (by omega) (Ev.neg (by omega) (Ev.pos (by omega) (Ev.bind (Ev.pure _) (Ev.pos (by simp; omega) (Ev.bind (Ev.pure _) (Ev.pos (by omega) (Ev.pos (by omega) (Ev.pos (by simp; omega) (Ev.bind (Ev.pure _) (Ev.pos (by omega) (Ev.pos (by omega) (Ev.pos (by simp; omega) tail))))))))))))
      · exact Ev.neg (by omega) (Ev.pos (by omega) (Ev.bind (Ev.pure _) (Ev.pos (by simp; omega) (Ev.bind (Ev.pure _) (Ev.pos (by omega) (Ev.pos (by omega) (Ev.pos (by simp; omega) (Ev.bind (Ev.pure _) (Ev.pos (by omega) (Ev.pos (by omega) (Ev.pos (by simp; omega) tail)))))))))))
    by_cases h34 : c.toNat = 34
    · exact Ev.pos (by omega) (hq true (by simp [h34]))
    · refine Ev.neg (by omega) (hq _ ?_)
      simp [h34]; omega
theorem refquote_ev (s : ByteArray) (hs : s.size ≤ 140737488351232) (ho : (quoteF s.data.toList).length ≤ 65536) : Ev (fun k => latchkeyref05_Quote.f k s) (strOfNums (quoteF s.data.toList)) := by
  rw [quoteF_len] at ho
  have := refquote_loop s hs s.size 0 [34] (by omega) (by omega) (by rw [List.drop_zero]; simp; omega)
  rw [List.drop_zero] at this
  unfold latchkeyref05_Quote.f
  exact this
theorem rd_at (l : List S37) (i : Nat) (x : S37) (t : List S37) (h : l.drop i = x :: t) : rd_T37 l (i : Int) = x := by
  unfold rd_T37
  rw [show ((i : Int)).toNat = i by omega]
  have : l[i]? = some x := by
    have := congrArg (·[0]?) h
    simpa using this
  simp [List.getD, this]
theorem ldrop_cons {l : List S37} {i : Nat} (h : i < l.length) : ∃ x t, l.drop i = x :: t ∧ l.drop (i + 1) = t ∧ x ∈ l := by
  refine ⟨l[i], l.drop (i + 1), List.drop_eq_getElem_cons h, rfl, List.getElem_mem h⟩
theorem ldrop_nil {l : List S37} {i : Nat} (h : ¬ i < l.length) : l.drop i = [] := List.drop_eq_nil_of_le (by omega)
def tokB (x : S37) : List Int := if x.f0 = 5 then quoteF x.f1.data.toList else bytesOf x.f1
def addT (i : Nat) (x : S37) : List Int := if x.f0 = 7 then [] else (if 0 < i then [32] else []) ++ tokB x
def addAll : Nat → List S37 → List Int
  | _, [] => []
  | i, x :: t => addT i x ++ addAll (i + 1) t
def mayAll : List S37 → Bool
  | [] => true
  | x :: t => mayF x.f0 x.f1 (t.length == 0) && mayAll t
def wt : List S37 → Nat
  | [] => 0
  | x :: t => 8 + x.f1.size + wt t
theorem wt_mem : ∀ (l : List S37) (x : S37), x ∈ l → x.f1.size ≤ wt l
  | y :: t, x, h => by
    unfold wt
    rcases List.mem_cons.1 h with e | e
    · subst e; omega
    · have := wt_mem t x e; omega
theorem wt_len : ∀ (l : List S37), l.length ≤ wt l
  | [] => by simp [wt]
  | y :: t => by
    unfold wt
    have := wt_len t
    simp only [List.length_cons]; omega
theorem beyond_loop (l : List S37) (hb : ∀ x ∈ l, x.f1.size ≤ 140737488355328) (hl : l.length ≤ 140737488355328) : ∀ (N i : Nat) (z : Int), l.length - i ≤ N → i ≤ l.length → z ≤ 2147483647 → -140737488355340 ≤ z →
    ∃ b, Ev (fun k => latchkeyref00_BeyondTokens.l0 k l z (i : Int)) b ∧ (b = false → (wt (l.drop i) : Int) ≤ z) := by
  intro N
  induction N with
  | zero =>
    intro i z h1 h2 h3 h4
    refine ⟨decide (z < 0), Ev.succ ?_, ?_⟩
    · unfold latchkeyref00_BeyondTokens.l0
      exact Ev.neg (by omega) (Ev.pure _)
    · intro e
      rw [ldrop_nil (by omega)]
      simp [wt] at e ⊢; omega
  | succ N ih =>
    intro i z h1 h2 h3 h4
    by_cases h : i < l.length
    rotate_left
    · refine ⟨decide (z < 0), Ev.succ ?_, ?_⟩
      · unfold latchkeyref00_BeyondTokens.l0
        exact Ev.neg (by omega) (Ev.pure _)
      · intro e
        rw [ldrop_nil h]
        simp [wt] at e ⊢; omega
    obtain ⟨x, t, e1, e2, e3⟩ := ldrop_cons h
    have hx := hb x e3
    by_cases hz : 0 ≤ z
    · obtain ⟨b, b1, b2⟩ := ih (i + 1) (z - 8 - (x.f1.size : Int)) (by omega) (by omega) (by omega) (by omega)
      refine ⟨b, Ev.succ ?_, ?_⟩
      · unfold latchkeyref00_BeyondTokens.l0
        rw [rd_at l i x t e1, w64 (x := z - 8) (by omega) (by omega), w64 (x := z - 8 - (x.f1.size : Int)) (by omega) (by omega), tk_nat (by omega)]
        exact Ev.pos (by omega) (Ev.pos (by omega) (Ev.pos (by omega) b1))
      · intro e
        have := b2 e
        rw [e1]; unfold wt
        rw [e2] at this
        omega
    · refine ⟨true, Ev.succ ?_, by simp⟩
      unfold latchkeyref00_BeyondTokens.l0
      exact Ev.pos (by omega) (Ev.neg (by omega) (Ev.const (by simp; omega)))
theorem beyond_ev (l : List S37) (hb : ∀ x ∈ l, x.f1.size ≤ 140737488355328) (hl : l.length ≤ 140737488355328) :
    ∃ b, Ev (fun k => latchkeyref00_BeyondTokens.f k l) b ∧ (b = false → wt l ≤ 2147483647) := by
  obtain ⟨b, b1, b2⟩ := beyond_loop l hb hl l.length 0 2147483647 (by omega) (by omega) (by omega) (by omega)
  refine ⟨b, b1, fun e => ?_⟩
  have := b2 e
  rw [List.drop_zero] at this
  omega
def printTail (P : List Int) (i : Nat) (l : List S37) : ByteArray × Int := if 65536 < (P ++ addAll i l).length then (⟨#[]⟩, 3) else (strOfNums (P ++ addAll i l), 0)
def printV (l : List S37) : ByteArray × Int := if mayAll l = true then printTail [] 0 l else (⟨#[]⟩, 50)
theorem tokB_5 {x : S37} (h : x.f0 = 5) : tokB x = quoteF x.f1.data.toList := by unfold tokB; rw [if_pos h]
theorem tokB_n {x : S37} (h : ¬ x.f0 = 5) : tokB x = bytesOf x.f1 := by unfold tokB; rw [if_neg h]
theorem printTail_step (P : List Int) (i : Nat) (x : S37) (t : List S37) : printTail P i (x :: t) = printTail (P ++ addT i x) (i + 1) t := by
  unfold printTail
  rw [show addAll i (x :: t) = addT i x ++ addAll (i + 1) t from rfl, List.append_assoc]
theorem printTail_long {P : List Int} {i : Nat} {l : List S37} (h : 65536 < P.length) : printTail P i l = (⟨#[]⟩, 3) := by
  unfold printTail
  rw [if_pos (by rw [List.length_append]; omega)]
theorem tokprint_loop (l : List S37) (hw : wt l ≤ 2147483647) : ∀ (N i : Nat) (P : List Int), l.length - i ≤ N → i ≤ l.length → P.length ≤ 65536 →
    Ev (fun k => tokens_Print.l1 k P l (l.length : Int) (i : Int)) (printTail P i (l.drop i)) := by
  have hlen := wt_len l
  intro N
  have fin : ∀ (i : Nat) (P : List Int), ¬ i < l.length → P.length ≤ 65536 → Ev (fun k => tokens_Print.l1 k P l (l.length : Int) (i : Int)) (printTail P i (l.drop i)) := by
    intro i P h hP
    rw [ldrop_nil h]
    refine Ev.succ ?_
    unfold tokens_Print.l1 printTail
    refine Ev.neg (by omega) (Ev.const ?_)
    unfold addAll
    rw [List.append_nil, if_neg (by omega)]
  induction N with
  | zero => intro i P h1 h2 hP; exact fin i P (by omega) hP
  | succ N ih =>
    intro i P h1 h2 hP
    by_cases h : i < l.length
    rotate_left
    · exact fin i P h hP
    obtain ⟨x, t, e1, e2, e3⟩ := ldrop_cons h
    have hx := wt_mem l x e3
    rw [e1, printTail_step]
    refine Ev.succ ?_
    unfold tokens_Print.l1
    rw [rd_at l i x t e1]
    refine Ev.pos (by omega) (Ev.pos (by omega) (Ev.pos (by omega) ?_))
    by_cases h7 : x.f0 = 7
    · have : addT i x = [] := by unfold addT; rw [if_pos h7]
      rw [this, List.append_nil]
      refine Ev.pos h7 ?_
      rw [tk_nat (by omega), ← e2]
      exact ih (i + 1) P (by omega) (by omega) hP
    refine Ev.neg h7 ?_
    have j2 : ∀ P' : List Int, P'.length ≤ 65537 → Ev (fun k => tokens_Print.j2 k P' l (l.length : Int) (i : Int) x.f0 x.f1 x.f2 x.f3) (printTail (P' ++ tokB x) (i + 1) t) := by
      intro P' hP'
      refine Ev.succ ?_
      unfold tokens_Print.j2
      rw [tk_nat (by omega)]
      by_cases h5 : x.f0 = 5
      · rw [tokB_5 h5]
        refine Ev.pos h5 ?_
        obtain ⟨q, q1, q2, q3⟩ := tokquote_ev x.f1 (by omega) P' hP'
        refine Ev.bind q1 ?_
        by_cases hq : 65536 < P'.length + (quoteF x.f1.data.toList).length
        · have := q3 hq
          rw [printTail_long (by rw [List.length_append]; omega)]
          exact Ev.pos (by omega) (Ev.pure _)
        · have hq' := q2 (by omega)
          have hl2 : q.length = P'.length + (quoteF x.f1.data.toList).length := by rw [hq', List.length_append]
          rw [← hq', ← e2]
          exact Ev.neg (by omega) (ih (i + 1) q (by omega) (by omega) (by omega))
      · rw [tokB_n h5]
        refine Ev.neg h5 ?_
        have hbl := bytesOf_length x.f1
        by_cases hb : 65536 < x.f1.size
        · rw [printTail_long (by rw [List.length_append]; omega)]
          exact Ev.pos (by omega) (Ev.pure _)
        refine Ev.neg (by omega) (Ev.pos (by omega) (Ev.bind (Ev.pure _) ?_))
        by_cases hq : 65536 < P'.length + x.f1.size
        · rw [printTail_long (by rw [List.length_append]; omega)]
          exact Ev.pos (by rw [List.length_append]; omega) (Ev.pure _)
        · rw [← e2]
          exact Ev.neg (by rw [List.length_append]; omega) (ih (i + 1) _ (by omega) (by omega) (by rw [List.length_append]; omega))
    by_cases hi : 0 < i
    · have : addT i x = [32] ++ tokB x := by unfold addT; rw [if_neg h7, if_pos hi]
      rw [this, ← List.append_assoc]
      exact Ev.pos (by omega) (Ev.pos (by omega) (j2 (P ++ [32]) (by simp; omega)))
    · have : addT i x = tokB x := by unfold addT; rw [if_neg h7, if_neg hi]; rfl
      rw [this]
      exact Ev.neg (by omega) (j2 P (by omega))
theorem last_eq (l : List S37) (i : Nat) (x : S37) (t : List S37) (h : l.drop i = x :: t) (hl : l.length ≤ 2147483647) : ((i : Int) == wrap64 ((l.length : Int) - 1)) = (t.length == 0) := by
  have hn : l.length - i = t.length + 1 := by
    have := congrArg List.length h
    simpa using this
  rw [w64 (by omega) (by omega)]
  rw [Bool.eq_iff_iff, beq_iff_eq, beq_iff_eq]; omega
theorem tokprint_ev (l : List S37) (hw : wt l ≤ 2147483647) : Ev (fun k => tokens_Print.f k l) (printV l) := by
  have hlen := wt_len l
  unfold tokens_Print.f
  have key : ∀ (N i : Nat), l.length - i ≤ N → i ≤ l.length → Ev (fun k => tokens_Print.l0 k l l (l.length : Int) (i : Int)) (if mayAll (l.drop i) = true then printTail [] 0 l else (⟨#[]⟩, 50)) := by
    have fin : ∀ i : Nat, ¬ i < l.length → Ev (fun k => tokens_Print.l0 k l l (l.length : Int) (i : Int)) (if mayAll (l.drop i) = true then printTail [] 0 l else (⟨#[]⟩, 50)) := by
      intro i h
      rw [ldrop_nil h, show mayAll [] = true from rfl, if_pos rfl]
      refine Ev.succ ?_
      unfold tokens_Print.l0
      refine Ev.neg (by omega) ?_
      have := tokprint_loop l hw l.length 0 [] (by omega) (by omega) (by simp)
      rw [List.drop_zero] at this
      exact this
    intro N
    induction N with
    | zero => intro i h1 h2; exact fin i (by omega)
    | succ N ih =>
      intro i h1 h2
      by_cases h : i < l.length
      rotate_left
      · exact fin i h
      obtain ⟨x, t, e1, e2, e3⟩ := ldrop_cons h
      have hx := wt_mem l x e3
      have hn := ih (i + 1) (by omega) (by omega)
      rw [e2] at hn
      rw [e1]
      unfold mayAll
      refine Ev.succ ?_
      unfold tokens_Print.l0
      rw [rd_at l i x t e1, last_eq l i x t e1 (by omega), tk_nat (by omega)]
      refine Ev.pos (by omega) (Ev.pos (by omega) (Ev.pos (by omega) (Ev.bind (tokmay_ev x.f0 x.f1 x.f2 x.f3 _ (by omega)) ?_)))
      cases hm : mayF x.f0 x.f1 (t.length == 0) with
      | true => exact Ev.pos rfl (by simpa using hn)
      | false => exact Ev.neg (by simp) (Ev.const (by simp))
  have := key l.length 0 (by omega) (by omega)
  rw [List.drop_zero] at this
  exact this
theorem take_add1 {α : Type} (L : List α) (j : Nat) (a : α) (t : List α) (h : L.drop j = a :: t) : L.take (j + 1) = L.take j ++ [a] := by
  rw [List.take_add, h]; rfl
theorem bytesOf_str (q : List Int) (h : ∀ x ∈ q, 0 ≤ x ∧ x ≤ 255) : bytesOf (strOfNums q) = q := by
  unfold bytesOf
  rw [strOfNums_data, List.map_map]
  conv => rhs; rw [← List.map_id q]
  apply List.map_congr_left
  intro x hx
  obtain ⟨a, b⟩ := h x hx
  have : (UInt8.ofNat x.toNat).toNat = x.toNat := by rw [UInt8.toNat_ofNat']; omega
  simp only [Function.comp, this, id]; omega
theorem escQ_range (c : Nat) (hc : c < 256) : ∀ x ∈ escQ c, 0 ≤ x ∧ x ≤ 255 := by
  intro x hx
  have b1 := bt_range hexT ((c / 16 : Nat) : Int)
  have b2 := bt_range hexT ((c % 16 : Nat) : Int)
  unfold escQ at hx
  split at hx
  · simp at hx; omega
  split at hx
  · simp at hx; omega
  split at hx
  · simp at hx; omega
  · simp only [List.mem_cons, List.mem_nil_iff, or_false] at hx
    rcases hx with rfl | rfl | rfl | rfl
    · omega
    · omega
    · exact b1
    · exact b2
theorem quoteB_range : ∀ (L : List UInt8), ∀ x ∈ quoteB L, 0 ≤ x ∧ x ≤ 255
  | [], x, h => by simp [quoteB] at h
  | c :: t, x, h => by
    unfold quoteB at h
    rcases List.mem_append.1 h with e | e
    · exact escQ_range c.toNat c.toNat_lt x e
    · exact quoteB_range t x e
theorem quoteF_range (L : List UInt8) : ∀ x ∈ quoteF L, 0 ≤ x ∧ x ≤ 255 := by
  intro x h
  unfold quoteF at h
  rcases List.mem_cons.1 h with e | e
  · omega
  rcases List.mem_append.1 e with e | e
  · exact quoteB_range L x e
  · simp at e; omega
theorem bytes_drop (s : ByteArray) (j : Nat) (h : j < s.size) : (bytesOf s).drop j = bt s (j : Int) :: (bytesOf s).drop (j + 1) := by
  obtain ⟨c, T, e1, e2, e3, e4⟩ := drop_cons h
  unfold bytesOf
  rw [← List.map_drop, ← List.map_drop, e1, e2, e4]; rfl
theorem copy_loop (l : List S37) (s : ByteArray) (hs : s.size ≤ 65536) (i : Nat) (v : ByteArray × Int) (hi : i ≤ 4611686018427387904) (Q0 : List Int)
    (hv : Ev (fun k => latchkeyref05_Print.l2 k l (Q0 ++ bytesOf s) ((i + 1 : Nat) : Int)) v) (hq : Q0.length ≤ 70000) :
    ∀ (N j : Nat), s.size - j ≤ N → j ≤ s.size → Ev (fun k => latchkeyref05_Print.l3 k l (Q0 ++ (bytesOf s).take j) (i : Int) s (j : Int)) v := by
  have hbl := bytesOf_length s
  intro N
  have fin : ∀ j : Nat, ¬ j < s.size → Ev (fun k => latchkeyref05_Print.l3 k l (Q0 ++ (bytesOf s).take j) (i : Int) s (j : Int)) v := by
    intro j h
    rw [List.take_of_length_le (by omega)]
    refine Ev.succ ?_
    unfold latchkeyref05_Print.l3
    rw [tk_nat hi]
    exact Ev.neg (by omega) hv
  induction N with
  | zero => intro j h1 h2; exact fin j (by omega)
  | succ N ih =>
    intro j h1 h2
    by_cases h : j < s.size
    rotate_left
    · exact fin j h
    have hn := ih (j + 1) (by omega) (by omega)
    rw [take_add1 (bytesOf s) j (bt s (j : Int)) _ (bytes_drop s j h), ← List.append_assoc] at hn
    refine Ev.succ ?_
    unfold latchkeyref05_Print.l3
    rw [tk_nat (by omega)]
    refine Ev.pos (by omega) (Ev.pos (by omega) (Ev.pos ?_ hn))
    rw [List.length_append, List.length_take]; omega
theorem build_loop (l : List S37) (hw : wt l ≤ 2147483647) : ∀ (N i : Nat) (P : List Int), l.length - i ≤ N → i ≤ l.length → (P ++ addAll i (l.drop i)).length ≤ 65536 →
    Ev (fun k => latchkeyref05_Print.l2 k l P (i : Int)) (strOfNums (P ++ addAll i (l.drop i)), 0) := by
  have hlen := wt_len l
  intro N
  have fin : ∀ (i : Nat) (P : List Int), ¬ i < l.length → Ev (fun k => latchkeyref05_Print.l2 k l P (i : Int)) (strOfNums (P ++ addAll i (l.drop i)), 0) := by
    intro i P h
    rw [ldrop_nil h]
    refine Ev.succ ?_
    unfold latchkeyref05_Print.l2
    refine Ev.neg (by omega) (Ev.const ?_)
    unfold addAll
    rw [List.append_nil]
  induction N with
  | zero => intro i P h1 h2 hP; exact fin i P (by omega)
  | succ N ih =>
    intro i P h1 h2 hP
    by_cases h : i < l.length
    rotate_left
    · exact fin i P h
    obtain ⟨x, t, e1, e2, e3⟩ := ldrop_cons h
    have hx := wt_mem l x e3
    rw [e1, show addAll i (x :: t) = addT i x ++ addAll (i + 1) t from rfl, ← List.append_assoc] at hP ⊢
    have hn := ih (i + 1) (P ++ addT i x) (by omega) (by omega) (by rw [e2]; exact hP)
    rw [e2] at hn
    generalize strOfNums (P ++ addT i x ++ addAll (i + 1) t) = v at hn ⊢
    rw [List.length_append, List.length_append] at hP
    refine Ev.succ ?_
    unfold latchkeyref05_Print.l2
    rw [rd_at l i x t e1]
    refine Ev.pos (by omega) (Ev.pos (by omega) ?_)
    by_cases h7 : x.f0 = 7
    · have : addT i x = [] := by unfold addT; rw [if_pos h7]
      rw [this, List.append_nil] at hn
      refine Ev.pos h7 ?_
      rw [tk_nat (by omega)]
      exact hn
    refine Ev.neg h7 ?_
    have j4 : ∀ P' : List Int, P'.length + (tokB x).length ≤ 65536 → Ev (fun k => latchkeyref05_Print.l2 k l (P' ++ tokB x) ((i + 1 : Nat) : Int)) (v, 0) → Ev (fun k => latchkeyref05_Print.j4 k l P' (i : Int)) (v, 0) := by
      intro P' hP' hv
      have cp : ∀ s : ByteArray, bytesOf s = tokB x → Ev (fun k => latchkeyref05_Print.j5 k l P' (i : Int) s) (v, 0) := by
        intro s hs
        have hbl := bytesOf_length s
        rw [hs] at hbl
        rw [← hs] at hv
        have := copy_loop l s (by omega) i (v, 0) (by omega) P' hv (by omega) s.size 0 (by omega) (by omega)
        rw [List.take_zero, List.append_nil] at this
        refine Ev.succ ?_
        unfold latchkeyref05_Print.j5
        exact this
      refine Ev.succ ?_
      unfold latchkeyref05_Print.j4
      rw [rd_at l i x t e1]
      refine Ev.pos (by omega) (Ev.pos (by omega) ?_)
      by_cases h5 : x.f0 = 5
      · refine Ev.pos h5 (Ev.bind (refquote_ev x.f1 (by omega) ?_) (cp _ ?_))
        · rw [tokB_5 h5] at hP'; omega
        · rw [bytesOf_str _ (quoteF_range _), tokB_5 h5]
      · exact Ev.neg h5 (cp _ (tokB_n h5).symm)
    by_cases hi : 0 < i
    · have : addT i x = [32] ++ tokB x := by unfold addT; rw [if_neg h7, if_pos hi]
      rw [this] at hn hP
      rw [← List.append_assoc] at hn
      simp only [List.length_append, List.length_cons, List.length_nil] at hP
      exact Ev.pos (by omega) (Ev.pos (by omega) (j4 (P ++ [32]) (by simp; omega) hn))
    · have : addT i x = tokB x := by unfold addT; rw [if_neg h7, if_neg hi]; rfl
      rw [this] at hn hP
      exact Ev.neg (by omega) (j4 P (by omega) hn)
theorem count_loop (l : List S37) (hw : wt l ≤ 2147483647) : ∀ (N i m : Nat), l.length - i ≤ N → i ≤ l.length → m ≤ 4294967296 →
    (m + (addAll i (l.drop i)).length ≤ 65536 → (addAll 0 l).length ≤ 65536) → ((addAll 0 l).length ≤ 65536 → m + (addAll i (l.drop i)).length ≤ 65536) →
    Ev (fun k => latchkeyref05_Print.l1 k l (m : Int) (i : Int)) (printTail [] 0 l) := by
  have hlen := wt_len l
  have fin : ∀ (i m : Nat) (b : Bool), (b = true → False) → (m ≤ 65536 → (addAll 0 l).length ≤ 65536) → ((addAll 0 l).length ≤ 65536 → m ≤ 65536) → Ev (fun k => latchkeyref05_Print.j2 k l (m : Int) (i : Int) b) (printTail [] 0 l) := by
    intro i m b hb h3 h4
    refine Ev.succ ?_
    unfold latchkeyref05_Print.j2 printTail
    refine Ev.neg (fun e => hb e) ?_
    rw [List.nil_append]
    by_cases hm : m ≤ 65536
    · have := h3 hm
      rw [if_neg (by omega)]
      refine Ev.neg (by omega) ?_
      have hbl := build_loop l hw l.length 0 [] (by omega) (by omega) (by rw [List.drop_zero, List.nil_append]; exact this)
      rw [List.drop_zero, List.nil_append] at hbl
      exact hbl
    · rw [if_pos (by omega)]
      exact Ev.pos (by omega) (Ev.pure _)
  intro N
  have fin2 : ∀ (i m : Nat), ¬ i < l.length → (m + (addAll i (l.drop i)).length ≤ 65536 → (addAll 0 l).length ≤ 65536) → ((addAll 0 l).length ≤ 65536 → m + (addAll i (l.drop i)).length ≤ 65536) → Ev (fun k => latchkeyref05_Print.l1 k l (m : Int) (i : Int)) (printTail [] 0 l) := by
    intro i m h h3 h4
    rw [ldrop_nil h] at h3 h4
    refine Ev.succ ?_
    unfold latchkeyref05_Print.l1
    exact Ev.neg (by omega) (fin i m false (by simp) (by simpa [addAll] using h3) (by simpa [addAll] using h4))
  induction N with
  | zero => intro i m h1 h2 hm h3 h4; exact fin2 i m (by omega) h3 h4
  | succ N ih =>
    intro i m h1 h2 hm h3 h4
    by_cases h : i < l.length
    rotate_left
    · exact fin2 i m h h3 h4
    obtain ⟨x, t, e1, e2, e3⟩ := ldrop_cons h
    have hx := wt_mem l x e3
    refine Ev.succ ?_
    unfold latchkeyref05_Print.l1
    refine Ev.pos (by omega) ?_
    by_cases hl : m ≤ 65536
    rotate_left
    · exact fin i m _ (by simp; omega) (by omega) (fun e => by have := h4 e; omega)
    rw [show decide ((m : Int) ≤ 65536) = true by simp; omega]
    rw [e1, show addAll i (x :: t) = addT i x ++ addAll (i + 1) t from rfl, List.length_append] at h3 h4
    refine Ev.succ ?_
    unfold latchkeyref05_Print.j2
    rw [rd_at l i x t e1, tk_nat (by omega)]
    refine Ev.pos rfl (Ev.pos (by omega) (Ev.pos (by omega) ?_))
    by_cases h7 : x.f0 = 7
    · have : addT i x = [] := by unfold addT; rw [if_pos h7]
      rw [this] at h3 h4
      refine Ev.pos h7 (ih (i + 1) m (by omega) (by omega) hm ?_ ?_)
      · rw [e2]; intro e; exact h3 (by simp; exact e)
      · rw [e2]; intro e; have := h4 e; simp at this; exact this
    refine Ev.neg h7 ?_
    have wr : ∀ a b : Nat, a ≤ 4294967297 → b ≤ 4294967296 → wrap64 ((a : Int) + (b : Int)) = ((a + b : Nat) : Int) := fun a b ha hb => by rw [w64 (by omega) (by omega)]; omega
    have w1 : wrap64 ((m : Int) + 1) = ((m + 1 : Nat) : Int) := tk_nat (by omega)
    obtain ⟨r, r1, r2, r3, r4⟩ := size_ev x.f1 (by omega)
    have hbl := bytesOf_length x.f1
    by_cases hi : 0 < i
    · refine Ev.pos (by omega) ?_
      have ea : addT i x = [32] ++ tokB x := by unfold addT; rw [if_neg h7, if_pos hi]
      rw [ea] at h3 h4
      simp only [List.length_append, List.length_cons, List.length_nil] at h3 h4
      rw [w1]
      by_cases h5 : x.f0 = 5
      · rw [tokB_5 h5] at h3 h4
        refine Ev.pos h5 (Ev.bind r1 ?_)
        rw [wr _ _ (by omega) (by omega)]
        refine ih (i + 1) (m + 1 + r) (by omega) (by omega) (by omega) ?_ ?_
        · rw [e2]; intro e; exact h3 (by have := r3; omega)
        · rw [e2]; intro e; have := h4 e; have := r2 (by omega); omega
      · rw [tokB_n h5, hbl] at h3 h4
        refine Ev.neg h5 ?_
        rw [wr _ _ (by omega) (by omega)]
        refine ih (i + 1) (m + 1 + x.f1.size) (by omega) (by omega) (by omega) ?_ ?_
        · rw [e2]; intro e; exact h3 (by omega)
        · rw [e2]; intro e; have := h4 e; omega
    · refine Ev.neg (by omega) ?_
      have ea : addT i x = tokB x := by unfold addT; rw [if_neg h7, if_neg hi]; rfl
      rw [ea] at h3 h4
      by_cases h5 : x.f0 = 5
      · rw [tokB_5 h5] at h3 h4
        refine Ev.pos h5 (Ev.bind r1 ?_)
        rw [wr _ _ (by omega) (by omega)]
        refine ih (i + 1) (m + r) (by omega) (by omega) (by omega) ?_ ?_
        · rw [e2]; intro e; exact h3 (by have := r3; omega)
        · rw [e2]; intro e; have := h4 e; have := r2 (by omega); omega
      · rw [tokB_n h5, hbl] at h3 h4
        refine Ev.neg h5 ?_
        rw [wr _ _ (by omega) (by omega)]
        refine ih (i + 1) (m + x.f1.size) (by omega) (by omega) (by omega) ?_ ?_
        · rw [e2]; intro e; exact h3 (by omega)
        · rw [e2]; intro e; have := h4 e; omega
theorem refprint_ev (l : List S37) (hw : wt l ≤ 2147483647) : Ev (fun k => latchkeyref05_Print.f k l) (printV l) := by
  have hlen := wt_len l
  unfold latchkeyref05_Print.f
  have key : ∀ (N i : Nat), l.length - i ≤ N → i ≤ l.length → Ev (fun k => latchkeyref05_Print.l0 k l (i : Int)) (if mayAll (l.drop i) = true then printTail [] 0 l else (⟨#[]⟩, 50)) := by
    have fin : ∀ i : Nat, ¬ i < l.length → Ev (fun k => latchkeyref05_Print.l0 k l (i : Int)) (if mayAll (l.drop i) = true then printTail [] 0 l else (⟨#[]⟩, 50)) := by
      intro i h
      rw [ldrop_nil h, show mayAll [] = true from rfl, if_pos rfl]
      refine Ev.succ ?_
      unfold latchkeyref05_Print.l0
      refine Ev.neg (by omega) ?_
      have := count_loop l hw l.length 0 0 (by omega) (by omega) (by omega) (by rw [List.drop_zero]; omega) (by rw [List.drop_zero]; omega)
      exact this
    intro N
    induction N with
    | zero => intro i h1 h2; exact fin i (by omega)
    | succ N ih =>
      intro i h1 h2
      by_cases h : i < l.length
      rotate_left
      · exact fin i h
      obtain ⟨x, t, e1, e2, e3⟩ := ldrop_cons h
      have hx := wt_mem l x e3
      have hn := ih (i + 1) (by omega) (by omega)
      rw [e2] at hn
      rw [e1]
      unfold mayAll
      refine Ev.succ ?_
      unfold latchkeyref05_Print.l0
      rw [rd_at l i x t e1, last_eq l i x t e1 (by omega), tk_nat (by omega)]
      refine Ev.pos (by omega) (Ev.pos (by omega) (Ev.bind (refmay_ev x.f0 x.f1 x.f2 x.f3 _ (by omega)) ?_))
      cases hm : mayF x.f0 x.f1 (t.length == 0) with
      | true => exact Ev.pos rfl (by simpa using hn)
      | false => exact Ev.neg (by simp) (Ev.const (by simp))
  have := key l.length 0 (by omega) (by omega)
  rw [List.drop_zero] at this
  exact this
def mtx (i : Int) : ByteArray := strOfNums (([35, (1 : Int) % 256, (1 / 256) % 256, (1 / 65536) % 256, 47, (i) % 256, (i / 256) % 256, (i / 65536) % 256] : List Int))
theorem mark_text (i : Int) : latchkeykit_markText.f 1 i = some (mtx i) := rfl
def mkT (i : Nat) : S37 := ⟨-7, mtx (i : Int), 0, 0⟩
def marksT : List S37 := (List.range 24).map mkT
theorem marks_len : marksT.length = 24 := by simp [marksT]
theorem marks_at (j : Nat) (h : j < 24) : marksT.drop j = mkT j :: marksT.drop (j + 1) := by
  have hl : j < marksT.length := by rw [marks_len]; exact h
  rw [List.drop_eq_getElem_cons hl]
  congr 1
  simp [marksT]
theorem lent_ev (l : List S37) (hw : wt l ≤ 2147483647) : Ev (fun k => latchkeykit_LentTokensR.f k l) (l ++ marksT) := by
  have hlen := wt_len l
  have hm := marks_len
  unfold latchkeykit_LentTokensR.f
  have k1 : ∀ (N j : Nat), 24 - j ≤ N → j ≤ 24 → Ev (fun k => latchkeykit_LentTokensR.l1 k l (l ++ marksT.take j) (j : Int)) (l ++ marksT) := by
    intro N
    have fin : ∀ j : Nat, ¬ j < 24 → Ev (fun k => latchkeykit_LentTokensR.l1 k l (l ++ marksT.take j) (j : Int)) (l ++ marksT) := by
      intro j h
      rw [List.take_of_length_le (by omega)]
      refine Ev.succ ?_
      unfold latchkeykit_LentTokensR.l1
      exact Ev.neg (by omega) (Ev.pos (by omega) (Ev.pos (by rw [List.length_append]; omega) (Ev.pure _)))
    induction N with
    | zero => intro j h1 h2; exact fin j (by omega)
    | succ N ih =>
      intro j h1 h2
      by_cases h : j < 24
      rotate_left
      · exact fin j h
      have hn := ih (j + 1) (by omega) (by omega)
      rw [take_add1 marksT j (mkT j) _ (marks_at j h), ← List.append_assoc] at hn
      refine Ev.succ ?_
      unfold latchkeykit_LentTokensR.l1
      rw [tk_nat (by omega)]
      refine Ev.pos (by omega) (Ev.bind (Ev.const (mark_text j)) (Ev.pos ?_ hn))
      rw [List.length_append, List.length_take]; omega
  have k0 : ∀ (N i : Nat), l.length - i ≤ N → i ≤ l.length → Ev (fun k => latchkeykit_LentTokensR.l0 k l (l.take i) (i : Int)) (l ++ marksT) := by
    intro N
    have fin : ∀ i : Nat, ¬ i < l.length → Ev (fun k => latchkeykit_LentTokensR.l0 k l (l.take i) (i : Int)) (l ++ marksT) := by
      intro i h
      rw [List.take_of_length_le (by omega)]
      refine Ev.succ ?_
      unfold latchkeykit_LentTokensR.l0
      refine Ev.neg (by omega) ?_
      have := k1 24 0 (by omega) (by omega)
      rw [List.take_zero, List.append_nil] at this
      exact this
    induction N with
    | zero => intro i h1 h2; exact fin i (by omega)
    | succ N ih =>
      intro i h1 h2
      by_cases h : i < l.length
      rotate_left
      · exact fin i h
      obtain ⟨x, t, e1, e2, e3⟩ := ldrop_cons h
      have hn := ih (i + 1) (by omega) (by omega)
      rw [take_add1 l i x _ e1] at hn
      refine Ev.succ ?_
      unfold latchkeykit_LentTokensR.l0
      rw [rd_at l i x t e1, tk_nat (by omega)]
      refine Ev.pos (by omega) (Ev.pos (by omega) (Ev.pos ?_ hn))
      rw [List.length_take]; omega
  have := k0 l.length 0 (by omega) (by omega)
  rw [List.take_zero] at this
  exact this
theorem kept_ev (l : List S37) (hw : wt l ≤ 2147483647) : Ev (fun k => latchkeykit_KeptTokensR.f k l.length (l ++ marksT) l) true := by
  have hlen := wt_len l
  have hm := marks_len
  have hal : (l ++ marksT).length = l.length + 24 := by rw [List.length_append, hm]
  unfold latchkeykit_KeptTokensR.f
  have hw24 : wrap64 ((l.length : Int) + 24) = ((l.length + 24 : Nat) : Int) := by rw [w64 (by omega) (by omega)]; omega
  rw [hw24, hal]
  refine Ev.pos rfl (Ev.pos (by omega) (Ev.pos (by omega) ?_))
  rw [show (((l.length + 24 : Nat) : Int)).toNat = l.length + 24 by omega, List.take_of_length_le (by omega)]
  have key : ∀ (N i : Nat), l.length + 24 - i ≤ N → i ≤ l.length + 24 → Ev (fun k => latchkeykit_KeptTokensR.l0 k l (l ++ marksT) (i : Int)) true := by
    intro N
    have fin : ∀ i : Nat, ¬ i < l.length + 24 → Ev (fun k => latchkeykit_KeptTokensR.l0 k l (l ++ marksT) (i : Int)) true := by
      intro i h
      refine Ev.succ ?_
      unfold latchkeykit_KeptTokensR.l0
      rw [hal]
      exact Ev.neg (by omega) (Ev.pure _)
    induction N with
    | zero => intro i h1 h2; exact fin i (by omega)
    | succ N ih =>
      intro i h1 h2
      by_cases h : i < l.length + 24
      rotate_left
      · exact fin i h
      have hn := ih (i + 1) (by omega) (by omega)
      refine Ev.succ ?_
      unfold latchkeykit_KeptTokensR.l0
      rw [hal, tk_nat (by omega)]
      refine Ev.pos (by omega) ?_
      by_cases hi : i < l.length
      · obtain ⟨x, t, e1, e2, e3⟩ := ldrop_cons hi
        have ea : (l ++ marksT).drop i = x :: (t ++ marksT) := by rw [List.drop_append_of_le_length (by omega), e1]; rfl
        rw [rd_at l i x t e1, rd_at _ i x _ ea]
        exact Ev.pos (by omega) (Ev.pos (by omega) (Ev.pos (by simp) (Ev.neg (by omega) hn)))
      · have ea : (l ++ marksT).drop i = mkT (i - l.length) :: marksT.drop (i - l.length + 1) := by
          rw [List.drop_append, ldrop_nil hi, List.nil_append, marks_at (i - l.length) (by omega)]
        rw [rd_at _ i _ _ ea, w64 (by omega) (by omega), show (i : Int) - (l.length : Int) = ((i - l.length : Nat) : Int) by omega]
        exact Ev.neg (by omega) (Ev.pos (by omega) (Ev.pos (by omega) (Ev.bind (Ev.const (mark_text _)) (Ev.neg (by simp [mkT]) hn))))
  exact key (l.length + 24) 0 (by omega) (by omega)
theorem tp_pure (l : List S37) (hb : ∀ x ∈ l, x.f1.size ≤ 140737488355328) (hl : l.length ≤ 140737488355328) :
    (∃ k, latchkeyref00_BeyondTokens.f k l = some true) ∨
    (∃ k s e, latchkeyref00_BeyondTokens.f k l = some false ∧ latchkeykit_LentTokensR.f k l = some (l ++ marksT) ∧ tokens_Print.f k l = some (s, e) ∧ latchkeyref05_Print.f k l = some (s, e) ∧
      latchkeykit_KeptTokensR.f k l.length (l ++ marksT) l = some true ∧ latchkeylaw05_awake.f k = some true) := by
  obtain ⟨b, ⟨K0, h0⟩, hw⟩ := beyond_ev l hb hl
  cases b with
  | true => exact Or.inl ⟨K0, h0 K0 (Nat.le_refl _)⟩
  | false =>
    have hw := hw rfl
    obtain ⟨K1, h1⟩ := lent_ev l hw
    obtain ⟨K2, h2⟩ := tokprint_ev l hw
    obtain ⟨K3, h3⟩ := refprint_ev l hw
    obtain ⟨K4, h4⟩ := kept_ev l hw
    obtain ⟨K5, h5⟩ := awake_ev
    have hk : ∃ k, K0 ≤ k ∧ K1 ≤ k ∧ K2 ≤ k ∧ K3 ≤ k ∧ K4 ≤ k ∧ K5 ≤ k := ⟨K0 + K1 + K2 + K3 + K4 + K5, by omega, by omega, by omega, by omega, by omega, by omega⟩
    obtain ⟨k, a0, a1, a2, a3, a4, a5⟩ := hk
    exact Or.inr ⟨k, (printV l).1, (printV l).2, h0 k a0, h1 k a1, h2 k a2, h3 k a3, h4 k a4, h5 k a5⟩
end Go.Proofs.YteedjhoffjkhmaaDoor.Q
