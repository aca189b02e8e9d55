import Derived.Test.YteedjhoffjkhmaaDoorQSa
import Derived.Test.YteedjhoffjkhmaaDoorQSw
import Derived.Test.YteedjhoffjkhmaaDoorPTx14
import Derived.Test.YteedjhoffjkhmaaDoorPTx15
import Derived.Test.YteedjhoffjkhmaaDoorPTx16
import Derived.Test.YteedjhoffjkhmaaDoorPTx17
import Derived.Test.YteedjhoffjkhmaaDoorPTx18
import Derived.Test.YteedjhoffjkhmaaDoorPTx0
import Derived.Test.YteedjhoffjkhmaaDoorPTx6
import Derived.Test.YteedjhoffjkhmaaDoorPUa
namespace Go.Proofs.YteedjhoffjkhmaaDoor.Q
open Go.RowKit Go.Proofs.YteedjhoffjkhmaaDoor.PT Go.Proofs.YteedjhoffjkhmaaDoorW.PrintWords Go.Proofs.YteedjhoffjkhmaaDoorW.PrintLast Go.Proofs.YteedjhoffjkhmaaDoorW.PrintMore
set_option linter.unusedVariables false
set_option linter.unusedSimpArgs false
def realT (L : List UInt8) (m : Nat) : Bool :=
  if m = L.length then true else if L[m]? = some 101 then
    (if L[m + 1]? = some 45 then decide (m + 1 + 1 < L.length ∧ m + 1 + 1 + dl (L.drop (m + 1 + 1)) = L.length) else decide (m + 1 < L.length ∧ m + 1 + dl (L.drop (m + 1)) = L.length))
  else false
def realF (L : List UInt8) : Bool :=
  if dl L = 0 then false else if L[dl L]? = some 46 then (if dl (L.drop (dl L + 1)) = 0 then false else realT L (dl L + (1 + dl (L.drop (dl L + 1))))) else false
theorem numEnd_len (L : List UInt8) (n : Nat) (h : n = L.length) : numEnd L n = true := by
  unfold numEnd; rw [List.getElem?_eq_none (by omega)]
def numTok (L : List UInt8) (k : Nat) : Bool := decide (dl L ≠ 0) && ((numF L).2.2 && (decide ((numF L).1 = L.length) && decide ((numF L).2.1 = k)))
theorem intTok (L : List UInt8) : numTok L 3 = decide (L ≠ [] ∧ dl L = L.length) := by
  unfold numTok numF
  have l0 := dl_le L
  have hz : L ≠ [] ↔ 0 < L.length := by rw [List.length_pos_iff]
  by_cases h2 : L[dl L]? = some 46
  · have := at_lt h2
    rw [if_pos h2]
    have : ¬ (dl L = L.length) := by omega
    split
    · simp [this]
    · split
      · split <;> split <;> simp [this]
      · simp [this]
  · rw [if_neg h2]
    by_cases h3 : dl L = L.length
    · simp only [numEnd_len L _ h3]
      rw [Bool.eq_iff_iff]; simp [hz]; omega
    · simp [h3]
theorem realTok (L : List UInt8) : numTok L 4 = realF L := by
  unfold numTok numF realF
  have l0 := dl_le L
  by_cases h0 : dl L = 0
  · simp [h0]
  rw [if_neg h0]
  by_cases h2 : L[dl L]? = some 46
  rotate_left
  · rw [if_neg h2, if_neg h2]; simp
  rw [if_pos h2, if_pos h2]
  by_cases h3 : dl (L.drop (dl L + 1)) = 0
  · rw [if_pos h3, if_pos h3]; simp
  rw [if_neg h3, if_neg h3]
  have := at_lt h2
  have l1 := dl_drop_le L (dl L + 1) (by omega)
  rw [show dl L + 1 + dl (L.drop (dl L + 1)) = dl L + (1 + dl (L.drop (dl L + 1))) by omega] at l1
  generalize dl L + (1 + dl (L.drop (dl L + 1))) = m at l1 ⊢
  unfold realT
  by_cases h5 : L[m]? = some 101
  rotate_left
  · rw [if_neg h5, if_neg h5]
    by_cases h4 : m = L.length
    · rw [if_pos h4]; simp [h0, numEnd_len L L.length rfl, h4]
    · rw [if_neg h4]; simp [h4]
  have h4 := at_lt h5
  rw [if_pos h5, if_neg (show ¬ m = L.length by omega), if_pos h5]
  by_cases h7 : L[m + 1]? = some 45
  · rw [if_pos h7, if_pos h7]
    have h8 := at_lt h7
    have l3 := dl_drop_le L (m + 1 + 1) (by omega)
    by_cases h9 : dl (L.drop (m + 1 + 1)) = 0
    · rw [if_pos h9]; simp; omega
    · rw [if_neg h9]
      by_cases h10 : m + 1 + 1 + dl (L.drop (m + 1 + 1)) = L.length
      · have : m + 1 + 1 < L.length := by omega
        simp [h0, numEnd_len L L.length rfl, h10, this]
      · simp [h10]
  · rw [if_neg h7, if_neg h7]
    have l3 := dl_drop_le L (m + 1) (by omega)
    by_cases h9 : dl (L.drop (m + 1)) = 0
    · rw [if_pos h9]; simp; omega
    · rw [if_neg h9]
      by_cases h10 : m + 1 + dl (L.drop (m + 1)) = L.length
      · have : m + 1 < L.length := by omega
        simp [h0, numEnd_len L L.length rfl, h10, this]
      · simp [h10]
def kindF (L : List UInt8) : Int := (tokF ⟨#[]⟩ L).1
def oneK (L : List UInt8) (kind : Int) : Bool := match L with
  | [] => false
  | c :: T => (!(blankN c.toNat) && !(decide (c.toNat = 47 ∧ T.head? = some 47))) && ((nxm (c :: T)).2 && (decide ((nxm (c :: T)).1 = T.length + 1) && decide (kindF (c :: T) = kind)))
theorem ident_word_eq (s : ByteArray) : ident_word.f s = some (wordsL.contains s.data.toList) := word_eq s
theorem ident_lower_eq (c : Nat) : ident_lower.f (c : Int) = some (smallN c) := by
  unfold ident_lower.f smallN
  by_cases h : 97 ≤ c
  · rw [if_pos (by omega)]; simp [h]; omega
  · rw [if_neg (by omega)]; simp [h]
theorem ident_digit_eq (c : Nat) : ident_digit.f (c : Int) = some (digitN c) := by
  unfold ident_digit.f digitN
  by_cases h : 48 ≤ c
  · rw [if_pos (by omega)]; simp [h]; omega
  · rw [if_neg (by omega)]; simp [h]
def nameF (L : List UInt8) : Bool := match L with
  | [] => false
  | c :: T => decide (T.length + 1 ≤ 32) && (smallN c.toNat && (!(wordsL.contains (c :: T)) && (c :: T).all rowB))
theorem name_loop (s : ByteArray) (hs : s.size ≤ 32) : ∀ (N i : Nat), s.size - i ≤ N → i ≤ s.size → Ev (fun k => ident_Name.l0 k s (s.size : Int) (i : Int)) ((s.data.toList.drop i).all rowB) := by
  intro N
  induction N with
  | zero =>
    intro i h1 h2
    refine Ev.succ ?_
    unfold ident_Name.l0
    rw [drop_nil (by omega)]
    exact Ev.neg (by omega) (Ev.pure _)
  | succ N ih =>
    intro i h1 h2
    refine Ev.succ ?_
    unfold ident_Name.l0
    by_cases h : i < s.size
    · obtain ⟨c, T, e1, e2, e3, e4⟩ := drop_cons h
      refine Ev.pos (by omega) (Ev.pos (by omega) (Ev.pos (by omega) ?_))
      rw [e4, e1, List.all_cons, rowB_within]
      unfold withinN
      have hn := ih (i + 1) (by omega) (by omega)
      rw [e2] at hn
      rw [tk_nat (by omega)]
      refine Ev.bind (Ev.const (ident_lower_eq c.toNat)) ?_
      cases hs1 : smallN c.toNat with
      | true => exact Ev.pos rfl (by simpa using hn)
      | false =>
        refine Ev.neg (by simp) (Ev.bind (Ev.const (ident_digit_eq c.toNat)) ?_)
        cases hs2 : digitN c.toNat with
        | true => exact Ev.pos rfl (by simpa using hn)
        | false =>
          refine Ev.neg (by simp) ?_
          by_cases h95 : c.toNat = 95
          · exact Ev.pos (by omega) (by simpa [h95] using hn)
          · exact Ev.neg (by omega) (Ev.const (by simp [h95]))
    · rw [drop_nil h]
      exact Ev.neg (by omega) (Ev.pure _)
theorem name_ev (s : ByteArray) (hb : s.size ≤ 140737488351232) : Ev (fun k => ident_Name.f k s) (nameF s.data.toList) := by
  unfold ident_Name.f
  have hlen : s.data.toList.length = s.size := len_toList s
  have jt : ∀ v : Bool, v = false → Ev (fun k => ident_Name.j0 k s true) v := by
    intro v hv
    refine Ev.succ ?_
    unfold ident_Name.j0
    exact Ev.pos rfl (Ev.const (by rw [hv]))
  cases hL : s.data.toList with
  | nil => exact Ev.pos (by rw [Lib.toList_data, hL]) (jt _ rfl)
  | cons c T =>
    rw [hL] at hlen
    simp only [List.length_cons] at hlen
    refine Ev.neg (by rw [Lib.toList_data, hL]; simp) ?_
    unfold nameF
    by_cases h1 : T.length + 1 ≤ 32
    · refine Ev.neg (by omega) (Ev.pos (by omega) ?_)
      rw [show bt s 0 = (c.toNat : Int) from bt_cons (n := 0) hL rfl]
      refine Ev.bind (Ev.const (ident_lower_eq c.toNat)) ?_
      cases hs1 : smallN c.toNat with
      | false => exact Ev.neg (by simp) (jt _ (by simp only [hs1, Bool.false_and, Bool.and_false]))
      | true =>
        refine Ev.pos rfl (Ev.bind (Ev.const (ident_word_eq s)) ?_)
        rw [hL]
        cases hw : wordsL.contains (c :: T) with
        | true => exact jt _ (by simp only [hs1, hw, Bool.not_true, Bool.false_and, Bool.and_false])
        | false =>
          refine Ev.succ ?_
          unfold ident_Name.j0
          refine Ev.neg (by simp) ?_
          have := name_loop s (by omega) s.size 0 (by omega) (by omega)
          rw [List.drop_zero, hL] at this
          simp only [hs1, hw, Bool.not_false, Bool.true_and, h1, decide_true]
          exact this
    · exact Ev.pos (by omega) (jt _ (by simp [h1]))
theorem oneK_cons (c : UInt8) (T : List UInt8) (kind : Int) : oneK (c :: T) kind = ((!(blankN c.toNat) && !(decide (c.toNat = 47 ∧ T.head? = some 47))) && ((nxm (c :: T)).2 && (decide ((nxm (c :: T)).1 = T.length + 1) && decide (kindF (c :: T) = kind)))) := rfl
theorem all_takeWhile : ∀ (L : List UInt8), (L.takeWhile rowB).length = L.length ↔ L.all rowB = true
  | [] => by simp
  | c :: T => by
    by_cases h : rowB c = true
    · rw [List.takeWhile_cons_of_pos h]; simp only [List.length_cons, Nat.add_right_cancel_iff, List.all_cons, h, Bool.true_and]; exact all_takeWhile T
    · rw [List.takeWhile_cons_of_neg h]; simp [h]
theorem rl_le (L : List UInt8) : rl L ≤ L.length := by unfold rl; exact (List.takeWhile_sublist _).length_le
theorem kindF_cons (c : UInt8) (T : List UInt8) : kindF (c :: T) = if smallN c.toNat = true then (if wordsL.contains ((c :: T).take (rl (c :: T))) = true then 2 else 1) else if digB c = true then ((numF (c :: T)).2.1 : Int) else if c.toNat = 34 then 5 else 6 := by
  unfold kindF
  rw [tokF_cons]
  split
  · rfl
  split
  · rfl
  split <;> rfl
theorem small_facts : ∀ c : Fin 256, smallN c.val = true → blankN c.val = false ∧ c.val ≠ 47 := by decide +kernel
theorem mark_facts : ∀ c : Fin 256, (cmpN c.val = true ∨ plainN c.val = true) → smallN c.val = false ∧ digitN c.val = false ∧ c.val ≠ 34 ∧ blankN c.val = false := by decide +kernel
theorem oneK_small (c : UInt8) (T : List UInt8) (kind : Int) (hs : smallN c.toNat = true) (hl : T.length + 1 ≤ 32) :
    oneK (c :: T) kind = ((c :: T).all rowB && decide ((if wordsL.contains (c :: T) = true then (2 : Int) else 1) = kind)) := by
  obtain ⟨f1, f2⟩ := small_facts ⟨c.toNat, c.toNat_lt⟩ hs
  simp only at f1 f2
  have hr := rl_le (c :: T)
  simp only [List.length_cons] at hr
  rw [oneK_cons]
  rw [nxm_cons, if_pos hs, if_neg (by omega), kindF_cons, if_pos hs]
  simp only [f1, f2, false_and, decide_false, Bool.not_false, Bool.true_and]
  by_cases h : rl (c :: T) = T.length + 1
  · have ha : (c :: T).all rowB = true := (all_takeWhile (c :: T)).1 (by simpa [rl] using h)
    rw [ha, h, List.take_of_length_le (by simp)]
    simp
  · have ha : (c :: T).all rowB = false := by
      cases hh : (c :: T).all rowB with
      | false => rfl
      | true => exact absurd ((all_takeWhile (c :: T)).2 hh) (by simpa [rl] using h)
    rw [ha]; simp [h]
theorem oneK_notsmall (c : UInt8) (T : List UInt8) (kind : Int) (hs : smallN c.toNat = false) (hk : kind = 1 ∨ kind = 2) : oneK (c :: T) kind = false := by
  rw [oneK_cons]
  have : decide (kindF (c :: T) = kind) = false := by
    rw [kindF_cons, if_neg (by simp [hs])]
    have := numF_kind (c :: T)
    split
    · simp; omega
    · split <;> simp <;> omega
  rw [this]; simp
theorem name_one (L : List UInt8) : nameF L = (decide (L.length ≤ 32) && oneK L 1) := by
  cases L with
  | nil => rfl
  | cons c T =>
    unfold nameF
    simp only [List.length_cons]
    by_cases hl : T.length + 1 ≤ 32
    · cases hs : smallN c.toNat with
      | false => rw [oneK_notsmall c T 1 hs (Or.inl rfl)]; simp
      | true =>
        rw [oneK_small c T 1 hs hl]
        cases hw : wordsL.contains (c :: T) with
        | false => simp
        | true => simp
    · simp [hl]
theorem words_all : ∀ L ∈ wordsL, L.length ≤ 32 ∧ oneK L 2 = true := by decide +kernel
theorem word_one (L : List UInt8) : wordsL.contains L = (decide (L.length ≤ 32) && oneK L 2) := by
  cases hw : wordsL.contains L with
  | true =>
    obtain ⟨h1, h2⟩ := words_all L (by simpa using hw)
    simp [h1, h2]
  | false =>
    symm
    cases L with
    | nil => rfl
    | cons c T =>
      simp only [List.length_cons]
      by_cases hl : T.length + 1 ≤ 32
      · cases hs : smallN c.toNat with
        | false => rw [oneK_notsmall c T 2 hs (Or.inr rfl)]; simp
        | true => rw [oneK_small c T 2 hs hl, hw]; simp
      · simp [hl]
def markT (L : List UInt8) : Bool := match L with
  | [] => false
  | c :: T => decide (T.length + 1 < 3) && decide (mkF (c :: T) = ((T.length + 1 : Nat) : Int))
theorem mark_one (L : List UInt8) : markT L = (decide (L.length ≤ 32) && oneK L 6) := by
  cases L with
  | nil => rfl
  | cons c T =>
    unfold markT
    simp only [List.length_cons]
    by_cases hp : cmpN c.toNat = true ∨ plainN c.toNat = true
    · obtain ⟨f1, f2, f3, f4⟩ := mark_facts ⟨c.toNat, c.toNat_lt⟩ hp
      simp only at f1 f2 f3 f4
      have hd : digB c = false := f2
      have en : nxm (c :: T) = if mkF (c :: T) < 1 then ((-(mkF (c :: T))).toNat, false) else ((mkF (c :: T)).toNat, true) := by
        rw [nxm_cons, if_neg (by simp [f1]), if_neg (by simp [hd]), if_neg f3]
      have ek : kindF (c :: T) = 6 := by rw [kindF_cons, if_neg (by simp [f1]), if_neg (by simp [hd]), if_neg f3]
      rw [oneK_cons, en, ek]
      have hm : mkF (c :: T) ≤ 2 := by
        rw [mkF_cons]; split
        · split
          · omega
          · split <;> omega
        · split <;> omega
      by_cases hr : c.toNat = 47 ∧ T.head? = some 47
      · have e1 : mkF (c :: T) = 1 := by
          rw [mkF_cons, if_neg (by simp [cmpN, hr.1]), if_pos (by simp [plainN, hr.1])]
        have e2 : T.length ≠ 0 := by
          intro e
          have : T = [] := List.length_eq_zero_iff.1 e
          rw [this] at hr; simp at hr
        rw [e1]
        simp only [hr, f4]
        simp; omega
      · simp only [f4, hr, decide_false, Bool.not_false, Bool.true_and]
        by_cases h1 : mkF (c :: T) < 1
        · rw [if_pos h1]
          simp; omega
        · rw [if_neg h1]
          simp only [decide_true, Bool.and_true, Bool.true_and]
          rw [Bool.eq_iff_iff]; simp; omega
    · have h0 : mkF (c :: T) = 0 := by
        rw [mkF_cons, if_neg (fun h => hp (Or.inl h)), if_neg (fun h => hp (Or.inr h))]
      have : oneK (c :: T) 6 = false := by
        rw [oneK_cons]
        rw [nxm_cons, kindF_cons]
        by_cases a1 : smallN c.toNat = true
        · rw [if_pos a1, if_pos a1]
          split <;> split <;> simp
        rw [if_neg a1, if_neg a1]
        by_cases a2 : digB c = true
        · rw [if_pos a2, if_pos a2]
          have := numF_kind (c :: T)
          have : decide (((numF (c :: T)).2.1 : Int) = 6) = false := by simp; omega
          rw [this]; simp
        rw [if_neg a2, if_neg a2]
        by_cases a3 : c.toNat = 34
        · rw [if_pos a3, if_pos a3]; simp
        rw [if_neg a3, if_neg a3, h0]
        simp
      rw [this, h0]
      simp; omega
def mayF (kind : Int) (s : ByteArray) (last : Bool) : Bool :=
  if kind = 1 ∨ kind = 2 ∨ kind = 6 then decide (s.data.toList.length ≤ 32) && oneK s.data.toList kind
  else if kind = 3 then decide (s.data.toList ≠ [] ∧ dl s.data.toList = s.data.toList.length)
  else if kind = 4 then realF s.data.toList
  else if kind = 5 then true
  else decide (kind = 7) && (decide (s.data.toList = []) && last)
theorem mayF_one {kind : Int} {s : ByteArray} {last : Bool} (h : kind = 1 ∨ kind = 2 ∨ kind = 6) : mayF kind s last = (decide (s.data.toList.length ≤ 32) && oneK s.data.toList kind) := by
  unfold mayF; rw [if_pos h]
theorem mayF_5 {kind : Int} {s : ByteArray} {last : Bool} (h : kind = 5) : mayF kind s last = true := by
  unfold mayF; rw [if_neg (by omega), if_neg (by omega), if_neg (by omega), if_pos h]
theorem mayF_x {kind : Int} {s : ByteArray} {last : Bool} (h : ¬ (kind = 1 ∨ kind = 2 ∨ kind = 6)) (h3 : kind ≠ 3) (h4 : kind ≠ 4) (h5 : kind ≠ 5) : mayF kind s last = (decide (kind = 7) && (decide (s.data.toList = []) && last)) := by
  unfold mayF; rw [if_neg h, if_neg h3, if_neg h4, if_neg h5]
theorem last_ev {kind : Int} {s : ByteArray} {last : Bool} : Ev (fun _ => if kind = 7 then (if s.toList = ([] : List UInt8) then some last else some false) else some false) (decide (kind = 7) && (decide (s.data.toList = []) && last)) := by
  by_cases h7 : kind = 7
  · refine Ev.pos h7 ?_
    rw [Lib.toList_data]
    by_cases h0 : s.data.toList = []
    · exact Ev.pos h0 (Ev.const (by rw [h7, h0]; simp))
    · exact Ev.neg h0 (Ev.const (by rw [show decide (s.data.toList = []) = false by simpa using h0]; simp))
  · exact Ev.neg h7 (Ev.const (by rw [show decide (kind = 7) = false by simpa using h7]; simp))
theorem tokdigit_eq (c : Nat) (hc : c < 256) : tokens_digit.f (wrap32 (c : Int)) = some (digitN c) := by
  have : wrap32 (c : Int) = c := by unfold wrap32; omega
  rw [this]
  unfold tokens_digit.f digitN
  by_cases h : 48 ≤ c
  · rw [if_pos (by omega)]; simp [h]; omega
  · rw [if_neg (by omega)]; simp [h]
theorem dl_zero (c : UInt8) (T : List UInt8) : (dl (c :: T) = 0) ↔ digB c = false := by
  by_cases h : digB c = true
  · rw [dl_cons_pos h]; simp [h]
  · rw [dl_cons_neg h]; simp [h]
theorem tokmay_ev (kind : Int) (s : ByteArray) (l c : Int) (last : Bool) (hs : s.size ≤ 140737488351232) : Ev (fun k => tokens_may.f k kind s l c last) (mayF kind s last) := by
  have hlen : s.data.toList.length = s.size := len_toList s
  have jnum : ∀ kk : Nat, kind = (kk : Int) → Ev (fun k => tokens_may.j0 k last s kind true kind s l c) (numTok s.data.toList kk) := by
    intro kk hk
    refine Ev.succ ?_
    unfold tokens_may.j0
    refine Ev.pos rfl ?_
    rw [Lib.toList_data]
    cases hL : s.data.toList with
    | nil => exact Ev.pos rfl (Ev.const (by simp [numTok, dl]))
    | cons d T =>
      rw [hL] at hlen
      simp only [List.length_cons] at hlen
      refine Ev.neg (by simp) (Ev.pos (by omega) ?_)
      rw [show bt s 0 = (d.toNat : Int) from bt_cons (n := 0) hL rfl]
      refine Ev.bind (Ev.const (tokdigit_eq d.toNat d.toNat_lt)) ?_
      unfold numTok
      by_cases hd : digB d = true
      · have h0 : dl (d :: T) ≠ 0 := fun e => by rw [(dl_zero d T).1 e] at hd; cases hd
        refine Ev.pos hd ?_
        have hn : tokens_number.f s = some (((numF (d :: T)).1 : Int), ((numF (d :: T)).2.1 : Int), (numF (d :: T)).2.2) := by
          unfold tokens_number.f; rw [if_pos hs, hL]
        refine Ev.bind (Ev.const hn) ?_
        cases hok : (numF (d :: T)).2.2 with
        | false => exact Ev.neg (by simp) (Ev.const (by simp))
        | true =>
          refine Ev.pos rfl ?_
          by_cases he : (numF (d :: T)).1 = s.size
          · refine Ev.pos (by simp only; omega) (Ev.const ?_)
            simp only [List.length_cons, hlen, he, h0, hk, Option.some.injEq]
            rw [Bool.eq_iff_iff]; simp; omega
          · exact Ev.neg (by simp only; omega) (Ev.const (by simp [hlen, he]))
      · have h0 : dl (d :: T) = 0 := (dl_zero d T).2 (by simpa using hd)
        exact Ev.neg hd (Ev.const (by simp [h0]))
  have jrest : kind ≠ 1 → kind ≠ 2 → kind ≠ 3 → kind ≠ 4 → Ev (fun k => tokens_may.j0 k last s kind false kind s l c) (mayF kind s last) := by
    intro k1 k2 k3 k4
    by_cases k5 : kind = 5
    · refine Ev.val (Ev.succ ?_) (mayF_5 k5).symm
      unfold tokens_may.j0
      exact Ev.neg (by simp) (Ev.pos k5 (Ev.pure _))
    by_cases k6 : kind = 6
    · refine Ev.val (Ev.succ ?_) (mayF_one (Or.inr (Or.inr k6))).symm
      rw [k6, ← mark_one]
      unfold tokens_may.j0
      refine Ev.neg (by simp) (Ev.neg (by omega) (Ev.pos rfl ?_))
      rw [Lib.toList_data]
      cases hL : s.data.toList with
      | nil => exact Ev.pos rfl (Ev.pure _)
      | cons d T =>
        rw [hL] at hlen
        simp only [List.length_cons] at hlen
        refine Ev.neg (by simp) ?_
        unfold markT
        by_cases h3 : s.size < 3
        · refine Ev.pos (by omega) (Ev.bind (mark_ev s d T hL) (Ev.const ?_))
          simp only [Option.some.injEq, hlen, h3, decide_true, Bool.true_and]
          rw [Bool.eq_iff_iff]; simp
        · refine Ev.neg (by omega) (Ev.const ?_)
          simp; omega
    refine Ev.val (Ev.succ ?_) (mayF_x (by omega) k3 k4 k5).symm
    unfold tokens_may.j0
    exact Ev.neg (by simp) (Ev.neg k5 (Ev.neg k6 last_ev))
  unfold tokens_may.f
  by_cases k1 : kind = 1
  · refine Ev.pos k1 (Ev.bind (name_ev s hs) (Ev.const ?_))
    unfold mayF
    rw [if_pos (Or.inl k1), k1, name_one]
  refine Ev.neg k1 ?_
  by_cases k2 : kind = 2
  · refine Ev.pos k2 (Ev.bind (Ev.const (word_eq s)) (Ev.const ?_))
    unfold mayF
    rw [if_pos (Or.inr (Or.inl k2)), k2, word_one]
  refine Ev.neg k2 ?_
  by_cases k3 : kind = 3
  · refine Ev.pos k3 ?_
    rw [show (kind == 3) = true by simp [k3]]
    refine (jnum 3 k3).val ?_
    unfold mayF
    rw [if_neg (by omega), if_pos k3, intTok]
  refine Ev.neg k3 ?_
  by_cases k4 : kind = 4
  · rw [show (kind == 4) = true by simp [k4]]
    refine (jnum 4 k4).val ?_
    unfold mayF
    rw [if_neg (by omega), if_neg k3, if_pos k4, realTok]
  · rw [show (kind == 4) = false by simp [k4]]
    exact jrest k1 k2 k3 k4
def hexT : ByteArray := ⟨#[48, 49, 50, 51, 52, 53, 54, 55, 56, 57, 97, 98, 99, 100, 101, 102]⟩
def escQ (c : Nat) : List Int :=
  if c = 34 ∨ c = 92 then [92, (c : Int)] else if c = 10 then [92, 110] else if 32 ≤ c ∧ c ≤ 126 then [(c : Int)]
  else [92, 120, bt hexT ((c / 16 : Nat) : Int), bt hexT ((c % 16 : Nat) : Int)]
def quoteB : List UInt8 → List Int
  | [] => []
  | c :: t => escQ c.toNat ++ quoteB t
def quoteF (L : List UInt8) : List Int := 34 :: (quoteB L ++ [34])
theorem quoteF_len (L : List UInt8) : (quoteF L).length = (quoteB L).length + 2 := by simp [quoteF]
theorem nib_facts : ∀ c : Fin 256, (c.val : Int) / 16 = ((c.val / 16 : Nat) : Int) ∧ Go.bits .and .u8 (c.val : Int) 15 = ((c.val % 16 : Nat) : Int) ∧ Int.tdiv (c.val : Int) 16 % 256 = ((c.val / 16 : Nat) : Int) ∧ Int.tmod (c.val : Int) 16 = ((c.val % 16 : Nat) : Int) ∧ c.val / 16 < 16 ∧ c.val % 16 < 16 := by decide +kernel
theorem escQ_len (c : Nat) : 1 ≤ (escQ c).length ∧ (escQ c).length ≤ 4 := by
  unfold escQ
  split
  · simp
  split
  · simp
  split <;> simp
theorem tokquote_loop (s : ByteArray) (hs : s.size ≤ 140737488351232) : ∀ (N i : Nat) (out : List Int), s.size - i ≤ N → i ≤ s.size → out.length ≤ 200000 →
    ∃ q, Ev (fun k => tokens_quote.l0 k out s (i : Int)) q ∧ (out.length + (quoteB (s.data.toList.drop i)).length + 1 ≤ 65536 → q = out ++ (quoteB (s.data.toList.drop i) ++ [34])) ∧ (65536 < out.length + (quoteB (s.data.toList.drop i)).length + 1 → 65536 < q.length) ∧ q.length ≤ max 65541 (out.length + 1) := by
  intro N
  have stop : ∀ (i : Nat) (out : List Int), out.length ≤ 200000 → Ev (fun k => tokens_quote.j1 k out s (i : Int) false) (out ++ [34]) := by
    intro i out ho
    refine Ev.succ ?_
    unfold tokens_quote.j1
    exact Ev.neg (by simp) (Ev.pos (by omega) (Ev.pure _))
  induction N with
  | zero =>
    intro i out h1 h2 ho
    refine ⟨out ++ [34], ?_, ?_, ?_, ?_⟩
    · refine Ev.succ ?_
      unfold tokens_quote.l0
      exact Ev.neg (by omega) (stop i out ho)
    · intro _; rw [drop_nil (by omega)]; simp [quoteB]
    · rw [drop_nil (by omega)]; simp [quoteB]
    · simp; omega
  | succ N ih =>
    intro i out h1 h2 ho
    by_cases h : i < s.size
    rotate_left
    · refine ⟨out ++ [34], ?_, ?_, ?_, ?_⟩
      · refine Ev.succ ?_
        unfold tokens_quote.l0
        exact Ev.neg (by omega) (stop i out ho)
      · intro _; rw [drop_nil h]; simp [quoteB]
      · rw [drop_nil h]; simp [quoteB]
      · simp; omega
    by_cases hl : out.length ≤ 65536
    rotate_left
    · refine ⟨out ++ [34], ?_, ?_, ?_, ?_⟩
      · refine Ev.succ ?_
        unfold tokens_quote.l0
        refine Ev.pos (by omega) ?_
        rw [show decide ((out.length : Int) ≤ 65536) = false by simp; omega]
        exact stop i out ho
      · intro h; omega
      · intro _; simp; omega
      · simp; omega
    obtain ⟨c, T, e1, e2, e3, e4⟩ := drop_cons h
    have hE := escQ_len c.toNat
    obtain ⟨q, q1, q2, q3, q4⟩ := ih (i + 1) (out ++ escQ c.toNat) (by omega) (by omega) (by rw [List.length_append]; omega)
    rw [e2] at q2 q3
    rw [List.length_append] at q2 q3 q4
    refine ⟨q, ?_, ?_, ?_, ?_⟩
    · refine Ev.succ ?_
      unfold tokens_quote.l0
      refine Ev.pos (by omega) ?_
      rw [show decide ((out.length : Int) ≤ 65536) = true by simp; omega]
      refine Ev.succ ?_
      unfold tokens_quote.j1
      refine Ev.pos rfl (Ev.pos (by omega) (Ev.pos (by omega) ?_))
      rw [e4]
      have hc := c.toNat_lt
      obtain ⟨f1, f2, _, _, f5, f6⟩ := nib_facts ⟨c.toNat, hc⟩
      simp only at f1 f2 f5 f6
      have hq : ∀ b : Bool, (b = true ↔ (c.toNat = 34 ∨ c.toNat = 92)) → Ev (fun k => tokens_quote.j2 k out s (i : Int) (c.toNat : Int) b) q := by
        intro b hb
        refine Ev.succ ?_
        unfold tokens_quote.j2
        rw [tk_nat (by omega)]
        by_cases hp : c.toNat = 34 ∨ c.toNat = 92
        · refine Ev.pos (hb.2 hp) (Ev.bind (Ev.pure _) (Ev.pos (by simp; omega) ?_))
          have : escQ c.toNat = [92, (c.toNat : Int)] := by unfold escQ; rw [if_pos hp]
          rw [this] at q1; exact q1
        refine Ev.neg (fun e => hp (hb.1 e)) ?_
        by_cases h10 : c.toNat = 10
        · refine Ev.pos (by omega) (Ev.bind (Ev.pure _) (Ev.pos (by simp; omega) ?_))
          have : escQ c.toNat = [92, 110] := by unfold escQ; rw [if_neg hp, if_pos h10]
          rw [this] at q1; exact q1
        refine Ev.neg (by omega) ?_
        by_cases hr : 32 ≤ c.toNat ∧ c.toNat ≤ 126
        · refine Ev.pos (by omega) (Ev.pos (by omega) (Ev.pos (by omega) ?_))
          have : escQ c.toNat = [(c.toNat : Int)] := by unfold escQ; rw [if_neg hp, if_neg h10, if_pos hr]
          rw [this] at q1; exact q1
        have he : escQ c.toNat = [92, 120, bt hexT ((c.toNat / 16 : Nat) : Int), bt hexT ((c.toNat % 16 : Nat) : Int)] := by unfold escQ; rw [if_neg hp, if_neg h10, if_neg hr]
        rw [he] at q1
        rw [f1, f2]
        by_cases h32 : 32 ≤ c.toNat
        · exact Ev.pos (by omega) (Ev.neg (by omega) (Ev.pos (by omega) (Ev.pos (by omega) (Ev.pos (by omega) (Ev.pos (by omega) (Ev.bind (Ev.pure _) (Ev.pos (by simp; omega) q1)))))))
        · exact Ev.neg (by omega) (Ev.pos (by omega) (Ev.pos (by omega) (Ev.pos (by omega) (Ev.pos (by omega) (Ev.bind (Ev.pure _) (Ev.pos (by simp; omega) q1))))))
      by_cases h34 : c.toNat = 34
      · exact Ev.pos (by omega) (hq true (by simp [h34]))
      · refine Ev.neg (by omega) (hq _ ?_)
        simp [h34]; omega
    · intro hle
      rw [e1]
      unfold quoteB
      rw [e1] at hle
      unfold quoteB at hle
      rw [List.length_append] at hle
      rw [q2 (by omega)]
      simp
    · intro hle
      rw [e1] at hle
      unfold quoteB at hle
      rw [List.length_append] at hle
      exact q3 (by omega)
    · omega
theorem tokquote_ev (s : ByteArray) (hs : s.size ≤ 140737488351232) (out : List Int) (ho : out.length ≤ 65537) :
    ∃ q, Ev (fun k => tokens_quote.f k out s) q ∧ (out.length + (quoteF s.data.toList).length ≤ 65536 → q = out ++ quoteF s.data.toList) ∧ (65536 < out.length + (quoteF s.data.toList).length → 65536 < q.length) := by
  obtain ⟨q, q1, q2, q3, q4⟩ := tokquote_loop s hs s.size 0 (out ++ [34]) (by omega) (by omega) (by simp; omega)
  rw [List.drop_zero] at q2 q3
  simp only [List.length_append, List.length_cons, List.length_nil] at q2 q3
  refine ⟨q, ?_, ?_, ?_⟩
  · unfold tokens_quote.f
    exact Ev.pos (by omega) q1
  · intro h; rw [quoteF_len] at h; rw [q2 (by omega)]; simp [quoteF]
  · intro h; rw [quoteF_len] at h; exact q3 (by omega)
theorem rd_at (l : List S37) (i : Nat) (x : S37) (t : List S37) (h : l.drop i = x :: t) : rd_T37 l (i : Int) = x := by
  unfold rd_T37
  rw [show ((i : Int)).toNat = i by omega]
  have : l[i]? = some x := by
    have := congrArg (·[0]?) h
    simpa using this
  simp [List.getD, this]
theorem ldrop_cons {l : List S37} {i : Nat} (h : i < l.length) : ∃ x t, l.drop i = x :: t ∧ l.drop (i + 1) = t ∧ x ∈ l := by
  refine ⟨l[i], l.drop (i + 1), List.drop_eq_getElem_cons h, rfl, List.getElem_mem h⟩
theorem ldrop_nil {l : List S37} {i : Nat} (h : ¬ i < l.length) : l.drop i = [] := List.drop_eq_nil_of_le (by omega)
def tokB (x : S37) : List Int := if x.f0 = 5 then quoteF x.f1.data.toList else bytesOf x.f1
def addT (i : Nat) (x : S37) : List Int := if x.f0 = 7 then [] else (if 0 < i then [32] else []) ++ tokB x
def addAll : Nat → List S37 → List Int
  | _, [] => []
  | i, x :: t => addT i x ++ addAll (i + 1) t
def mayAll : List S37 → Bool
  | [] => true
  | x :: t => mayF x.f0 x.f1 (t.length == 0) && mayAll t
def wt : List S37 → Nat
  | [] => 0
  | x :: t => 8 + x.f1.size + wt t
theorem wt_mem : ∀ (l : List S37) (x : S37), x ∈ l → x.f1.size ≤ wt l
  | y :: t, x, h => by
    unfold wt
    rcases List.mem_cons.1 h with e | e
    · subst e; omega
    · have := wt_mem t x e; omega
theorem wt_len : ∀ (l : List S37), l.length ≤ wt l
  | [] => by simp [wt]
  | y :: t => by
    unfold wt
    have := wt_len t
    simp only [List.length_cons]; omega
def printTail (P : List Int) (i : Nat) (l : List S37) : ByteArray × Int := if 65536 < (P ++ addAll i l).length then (⟨#[]⟩, 3) else (strOfNums (P ++ addAll i l), 0)
def printV (l : List S37) : ByteArray × Int := if mayAll l = true then printTail [] 0 l else (⟨#[]⟩, 50)
theorem tokB_5 {x : S37} (h : x.f0 = 5) : tokB x = quoteF x.f1.data.toList := by unfold tokB; rw [if_pos h]
theorem tokB_n {x : S37} (h : ¬ x.f0 = 5) : tokB x = bytesOf x.f1 := by unfold tokB; rw [if_neg h]
theorem printTail_step (P : List Int) (i : Nat) (x : S37) (t : List S37) : printTail P i (x :: t) = printTail (P ++ addT i x) (i + 1) t := by
  unfold printTail
  rw [show addAll i (x :: t) = addT i x ++ addAll (i + 1) t from rfl, List.append_assoc]
theorem printTail_long {P : List Int} {i : Nat} {l : List S37} (h : 65536 < P.length) : printTail P i l = (⟨#[]⟩, 3) := by
  unfold printTail
  rw [if_pos (by rw [List.length_append]; omega)]
theorem tokprint_loop (l : List S37) (hw : wt l ≤ 2147483647) : ∀ (N i : Nat) (P : List Int), l.length - i ≤ N → i ≤ l.length → P.length ≤ 65536 →
    Ev (fun k => tokens_Print.l1 k P l (l.length : Int) (i : Int)) (printTail P i (l.drop i)) := by
  have hlen := wt_len l
  intro N
  have fin : ∀ (i : Nat) (P : List Int), ¬ i < l.length → P.length ≤ 65536 → Ev (fun k => tokens_Print.l1 k P l (l.length : Int) (i : Int)) (printTail P i (l.drop i)) := by
    intro i P h hP
    rw [ldrop_nil h]
    refine Ev.succ ?_
    unfold tokens_Print.l1 printTail
    refine Ev.neg (by omega) (Ev.const ?_)
    unfold addAll
    rw [List.append_nil, if_neg (by omega)]
  induction N with
  | zero => intro i P h1 h2 hP; exact fin i P (by omega) hP
  | succ N ih =>
    intro i P h1 h2 hP
    by_cases h : i < l.length
    rotate_left
    · exact fin i P h hP
    obtain ⟨x, t, e1, e2, e3⟩ := ldrop_cons h
    have hx := wt_mem l x e3
    rw [e1, printTail_step]
    refine Ev.succ ?_
    unfold tokens_Print.l1
    rw [rd_at l i x t e1]
    refine Ev.pos (by omega) (Ev.pos (by omega) (Ev.pos (by omega) ?_))
    by_cases h7 : x.f0 = 7
    · have : addT i x = [] := by unfold addT; rw [if_pos h7]
      rw [this, List.append_nil]
      refine Ev.pos h7 ?_
      rw [tk_nat (by omega), ← e2]
      exact ih (i + 1) P (by omega) (by omega) hP
    refine Ev.neg h7 ?_
    have j2 : ∀ P' : List Int, P'.length ≤ 65537 → Ev (fun k => tokens_Print.j2 k P' l (l.length : Int) (i : Int) x.f0 x.f1 x.f2 x.f3) (printTail (P' ++ tokB x) (i + 1) t) := by
      intro P' hP'
      refine Ev.succ ?_
      unfold tokens_Print.j2
      rw [tk_nat (by omega)]
      by_cases h5 : x.f0 = 5
      · rw [tokB_5 h5]
        refine Ev.pos h5 ?_
        obtain ⟨q, q1, q2, q3⟩ := tokquote_ev x.f1 (by omega) P' hP'
        refine Ev.bind q1 ?_
        by_cases hq : 65536 < P'.length + (quoteF x.f1.data.toList).length
        · have := q3 hq
          rw [printTail_long (by rw [List.length_append]; omega)]
          exact Ev.pos (by omega) (Ev.pure _)
        · have hq' := q2 (by omega)
          have hl2 : q.length = P'.length + (quoteF x.f1.data.toList).length := by rw [hq', List.length_append]
          rw [← hq', ← e2]
          exact Ev.neg (by omega) (ih (i + 1) q (by omega) (by omega) (by omega))
      · rw [tokB_n h5]
        refine Ev.neg h5 ?_
        have hbl := bytesOf_length x.f1
        by_cases hb : 65536 < x.f1.size
        · rw [printTail_long (by rw [List.length_append]; omega)]
          exact Ev.pos (by omega) (Ev.pure _)
        refine Ev.neg (by omega) (Ev.pos (by omega) (Ev.bind (Ev.pure _) ?_))
        by_cases hq : 65536 < P'.length + x.f1.size
        · rw [printTail_long (by rw [List.length_append]; omega)]
          exact Ev.pos (by rw [List.length_append]; omega) (Ev.pure _)
        · rw [← e2]
          exact Ev.neg (by rw [List.length_append]; omega) (ih (i + 1) _ (by omega) (by omega) (by rw [List.length_append]; omega))
    by_cases hi : 0 < i
    · have : addT i x = [32] ++ tokB x := by unfold addT; rw [if_neg h7, if_pos hi]
      rw [this, ← List.append_assoc]
      exact Ev.pos (by omega) (Ev.pos (by omega) (j2 (P ++ [32]) (by simp; omega)))
    · have : addT i x = tokB x := by unfold addT; rw [if_neg h7, if_neg hi]; rfl
      rw [this]
      exact Ev.neg (by omega) (j2 P (by omega))
theorem last_eq (l : List S37) (i : Nat) (x : S37) (t : List S37) (h : l.drop i = x :: t) (hl : l.length ≤ 2147483647) : ((i : Int) == wrap64 ((l.length : Int) - 1)) = (t.length == 0) := by
  have hn : l.length - i = t.length + 1 := by
    have := congrArg List.length h
    simpa using this
  rw [w64 (by omega) (by omega)]
  rw [Bool.eq_iff_iff, beq_iff_eq, beq_iff_eq]; omega
theorem tokprint_ev (l : List S37) (hw : wt l ≤ 2147483647) : Ev (fun k => tokens_Print.f k l) (printV l) := by
  have hlen := wt_len l
  unfold tokens_Print.f
  have key : ∀ (N i : Nat), l.length - i ≤ N → i ≤ l.length → Ev (fun k => tokens_Print.l0 k l l (l.length : Int) (i : Int)) (if mayAll (l.drop i) = true then printTail [] 0 l else (⟨#[]⟩, 50)) := by
    have fin : ∀ i : Nat, ¬ i < l.length → Ev (fun k => tokens_Print.l0 k l l (l.length : Int) (i : Int)) (if mayAll (l.drop i) = true then printTail [] 0 l else (⟨#[]⟩, 50)) := by
      intro i h
      rw [ldrop_nil h, show mayAll [] = true from rfl, if_pos rfl]
      refine Ev.succ ?_
      unfold tokens_Print.l0
      refine Ev.neg (by omega) ?_
      have := tokprint_loop l hw l.length 0 [] (by omega) (by omega) (by simp)
      rw [List.drop_zero] at this
      exact this
    intro N
    induction N with
    | zero => intro i h1 h2; exact fin i (by omega)
    | succ N ih =>
      intro i h1 h2
      by_cases h : i < l.length
      rotate_left
      · exact fin i h
      obtain ⟨x, t, e1, e2, e3⟩ := ldrop_cons h
      have hx := wt_mem l x e3
      have hn := ih (i + 1) (by omega) (by omega)
      rw [e2] at hn
      rw [e1]
      unfold mayAll
      refine Ev.succ ?_
      unfold tokens_Print.l0
      rw [rd_at l i x t e1, last_eq l i x t e1 (by omega), tk_nat (by omega)]
      refine Ev.pos (by omega) (Ev.pos (by omega) (Ev.pos (by omega) (Ev.bind (tokmay_ev x.f0 x.f1 x.f2 x.f3 _ (by omega)) ?_)))
      cases hm : mayF x.f0 x.f1 (t.length == 0) with
      | true => exact Ev.pos rfl (by simpa using hn)
      | false => exact Ev.neg (by simp) (Ev.const (by simp))
  have := key l.length 0 (by omega) (by omega)
  rw [List.drop_zero] at this
  exact this
theorem take_add1 {α : Type} (L : List α) (j : Nat) (a : α) (t : List α) (h : L.drop j = a :: t) : L.take (j + 1) = L.take j ++ [a] := by
  rw [List.take_add, h]; rfl
def mtx (i : Int) : ByteArray := strOfNums (([35, (1 : Int) % 256, (1 / 256) % 256, (1 / 65536) % 256, 47, (i) % 256, (i / 256) % 256, (i / 65536) % 256] : List Int))
theorem mark_text (i : Int) : latchkeykit_markText.f 1 i = some (mtx i) := rfl
def mkT (i : Nat) : S37 := ⟨-7, mtx (i : Int), 0, 0⟩
def marksT : List S37 := (List.range 24).map mkT
theorem marks_len : marksT.length = 24 := by simp [marksT]
theorem marks_at (j : Nat) (h : j < 24) : marksT.drop j = mkT j :: marksT.drop (j + 1) := by
  have hl : j < marksT.length := by rw [marks_len]; exact h
  rw [List.drop_eq_getElem_cons hl]
  congr 1
  simp [marksT]
theorem lent_ev (l : List S37) (hw : wt l ≤ 2147483647) : Ev (fun k => latchkeykit_LentTokensR.f k l) (l ++ marksT) := by
  have hlen := wt_len l
  have hm := marks_len
  unfold latchkeykit_LentTokensR.f
  have k1 : ∀ (N j : Nat), 24 - j ≤ N → j ≤ 24 → Ev (fun k => latchkeykit_LentTokensR.l1 k l (l ++ marksT.take j) (j : Int)) (l ++ marksT) := by
    intro N
    have fin : ∀ j : Nat, ¬ j < 24 → Ev (fun k => latchkeykit_LentTokensR.l1 k l (l ++ marksT.take j) (j : Int)) (l ++ marksT) := by
      intro j h
      rw [List.take_of_length_le (by omega)]
      refine Ev.succ ?_
      unfold latchkeykit_LentTokensR.l1
      exact Ev.neg (by omega) (Ev.pos (by omega) (Ev.pos (by rw [List.length_append]; omega) (Ev.pure _)))
    induction N with
    | zero => intro j h1 h2; exact fin j (by omega)
    | succ N ih =>
      intro j h1 h2
      by_cases h : j < 24
      rotate_left
      · exact fin j h
      have hn := ih (j + 1) (by omega) (by omega)
      rw [take_add1 marksT j (mkT j) _ (marks_at j h), ← List.append_assoc] at hn
      refine Ev.succ ?_
      unfold latchkeykit_LentTokensR.l1
      rw [tk_nat (by omega)]
      refine Ev.pos (by omega) (Ev.bind (Ev.const (mark_text j)) (Ev.pos ?_ hn))
      rw [List.length_append, List.length_take]; omega
  have k0 : ∀ (N i : Nat), l.length - i ≤ N → i ≤ l.length → Ev (fun k => latchkeykit_LentTokensR.l0 k l (l.take i) (i : Int)) (l ++ marksT) := by
    intro N
    have fin : ∀ i : Nat, ¬ i < l.length → Ev (fun k => latchkeykit_LentTokensR.l0 k l (l.take i) (i : Int)) (l ++ marksT) := by
      intro i h
      rw [List.take_of_length_le (by omega)]
      refine Ev.succ ?_
      unfold latchkeykit_LentTokensR.l0
      refine Ev.neg (by omega) ?_
      have := k1 24 0 (by omega) (by omega)
      rw [List.take_zero, List.append_nil] at this
      exact this
    induction N with
    | zero => intro i h1 h2; exact fin i (by omega)
    | succ N ih =>
      intro i h1 h2
      by_cases h : i < l.length
      rotate_left
      · exact fin i h
      obtain ⟨x, t, e1, e2, e3⟩ := ldrop_cons h
      have hn := ih (i + 1) (by omega) (by omega)
      rw [take_add1 l i x _ e1] at hn
      refine Ev.succ ?_
      unfold latchkeykit_LentTokensR.l0
      rw [rd_at l i x t e1, tk_nat (by omega)]
      refine Ev.pos (by omega) (Ev.pos (by omega) (Ev.pos ?_ hn))
      rw [List.length_take]; omega
  have := k0 l.length 0 (by omega) (by omega)
  rw [List.take_zero] at this
  exact this
theorem kept_ev (l : List S37) (hw : wt l ≤ 2147483647) : Ev (fun k => latchkeykit_KeptTokensR.f k l.length (l ++ marksT) l) true := by
  have hlen := wt_len l
  have hm := marks_len
  have hal : (l ++ marksT).length = l.length + 24 := by rw [List.length_append, hm]
  unfold latchkeykit_KeptTokensR.f
  have hw24 : wrap64 ((l.length : Int) + 24) = ((l.length + 24 : Nat) : Int) := by rw [w64 (by omega) (by omega)]; omega
  rw [hw24, hal]
  refine Ev.pos rfl (Ev.pos (by omega) (Ev.pos (by omega) ?_))
  rw [show (((l.length + 24 : Nat) : Int)).toNat = l.length + 24 by omega, List.take_of_length_le (by omega)]
  have key : ∀ (N i : Nat), l.length + 24 - i ≤ N → i ≤ l.length + 24 → Ev (fun k => latchkeykit_KeptTokensR.l0 k l (l ++ marksT) (i : Int)) true := by
    intro N
    have fin : ∀ i : Nat, ¬ i < l.length + 24 → Ev (fun k => latchkeykit_KeptTokensR.l0 k l (l ++ marksT) (i : Int)) true := by
      intro i h
      refine Ev.succ ?_
      unfold latchkeykit_KeptTokensR.l0
      rw [hal]
      exact Ev.neg (by omega) (Ev.pure _)
    induction N with
    | zero => intro i h1 h2; exact fin i (by omega)
    | succ N ih =>
      intro i h1 h2
      by_cases h : i < l.length + 24
      rotate_left
      · exact fin i h
      have hn := ih (i + 1) (by omega) (by omega)
      refine Ev.succ ?_
      unfold latchkeykit_KeptTokensR.l0
      rw [hal, tk_nat (by omega)]
      refine Ev.pos (by omega) ?_
      by_cases hi : i < l.length
      · obtain ⟨x, t, e1, e2, e3⟩ := ldrop_cons hi
        have ea : (l ++ marksT).drop i = x :: (t ++ marksT) := by rw [List.drop_append_of_le_length (by omega), e1]; rfl
        rw [rd_at l i x t e1, rd_at _ i x _ ea]
        exact Ev.pos (by omega) (Ev.pos (by omega) (Ev.pos (by simp) (Ev.neg (by omega) hn)))
      · have ea : (l ++ marksT).drop i = mkT (i - l.length) :: marksT.drop (i - l.length + 1) := by
          rw [List.drop_append, ldrop_nil hi, List.nil_append, marks_at (i - l.length) (by omega)]
        rw [rd_at _ i _ _ ea, w64 (by omega) (by omega), show (i : Int) - (l.length : Int) = ((i - l.length : Nat) : Int) by omega]
        exact Ev.neg (by omega) (Ev.pos (by omega) (Ev.pos (by omega) (Ev.bind (Ev.const (mark_text _)) (Ev.neg (by simp [mkT]) hn))))
  exact key (l.length + 24) 0 (by omega) (by omega)
end Go.Proofs.YteedjhoffjkhmaaDoor.Q
