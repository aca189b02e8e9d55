import Derived.Test.YteedjhoffjkhmaaDoorQP
import Derived.Test.YteedjhoffjkhmaaDoorPTx23
import Derived.Test.YteedjhoffjkhmaaDoorPWb
namespace Go.Proofs.YteedjhoffjkhmaaDoor.Q
open Go.RowKit Go.Proofs.YteedjhoffjkhmaaDoor.PT Go.Proofs.YteedjhoffjkhmaaDoorW.PrintWords Go.Proofs.YteedjhoffjkhmaaDoorW.PrintLast Go.Proofs.YteedjhoffjkhmaaDoorW.PrintMore
set_option linter.unusedVariables false
set_option linter.unusedSimpArgs false
def byL (q : List Int) : List UInt8 := q.map fun n => UInt8.ofNat n.toNat
theorem byL_bytes (s : ByteArray) : byL (bytesOf s) = s.data.toList := by
  unfold byL bytesOf
  rw [List.map_map]
  conv => rhs; rw [← List.map_id s.data.toList]
  apply List.map_congr_left
  intro c _
  simp
theorem byL_append (a b : List Int) : byL (a ++ b) = byL a ++ byL b := by simp [byL]
theorem byL_len (a : List Int) : (byL a).length = a.length := by simp [byL]
def sepR (r : List UInt8) : Prop := ∀ d, r.head? = some d → blankN d.toNat = true ∨ d.toNat = 47
theorem sep_facts : ∀ c : Fin 256, (blankN c.val = true ∨ c.val = 47) → withinN c.val = false ∧ digitN c.val = false ∧ smallN c.val = false ∧ c.val ≠ 46 ∧ c.val ≠ 101 ∧ c.val ≠ 45 ∧ c.val ≠ 61 ∧ c.val ≠ 95 := by decide +kernel
theorem sep_at {r : List UInt8} (hr : sepR r) {d : UInt8} (h : r.head? = some d) : rowB d = false ∧ digB d = false ∧ smallB d = false ∧ d.toNat ≠ 46 ∧ d.toNat ≠ 101 ∧ d.toNat ≠ 45 ∧ d.toNat ≠ 61 ∧ d.toNat ≠ 95 := by
  obtain ⟨f1, f2, f3, f4, f5, f6, f7, f8⟩ := sep_facts ⟨d.toNat, d.toNat_lt⟩ (hr d h)
  exact ⟨by rw [rowB_within]; exact f1, f2, f3, f4, f5, f6, f7, f8⟩
theorem tw_ext (p : UInt8 → Bool) (r : List UInt8) (h : ∀ d, r.head? = some d → p d = false) : ∀ L : List UInt8, (L ++ r).takeWhile p = L.takeWhile p
  | [] => by
    cases r with
    | nil => rfl
    | cons d t => simp [List.takeWhile, h d rfl]
  | c :: t => by
    rw [List.cons_append]
    by_cases hc : p c = true
    · rw [List.takeWhile_cons_of_pos hc, List.takeWhile_cons_of_pos hc, tw_ext p r h t]
    · rw [List.takeWhile_cons_of_neg hc, List.takeWhile_cons_of_neg hc]
theorem rl_ext {r : List UInt8} (hr : sepR r) (L : List UInt8) : rl (L ++ r) = rl L := by
  unfold rl; rw [tw_ext rowB r (fun d h => (sep_at hr h).1)]
theorem dl_ext {r : List UInt8} (hr : sepR r) (L : List UInt8) (n : Nat) (hn : n ≤ L.length) : dl ((L ++ r).drop n) = dl (L.drop n) := by
  unfold dl
  rw [List.drop_append_of_le_length hn, tw_ext digB r (fun d h => (sep_at hr h).2.1)]
theorem get_ext {r : List UInt8} (L : List UInt8) (n : Nat) (hn : n ≤ L.length) (v : UInt8) (h : ∀ d, r.head? = some d → d ≠ v) : ((L ++ r)[n]? = some v) ↔ (L[n]? = some v) := by
  by_cases hl : n < L.length
  · rw [List.getElem?_append_left hl]
  · have : n = L.length := by omega
    subst this
    have hn' : L[L.length]? = none := List.getElem?_eq_none (Nat.le_refl _)
    rw [List.getElem?_append_right (Nat.le_refl _), Nat.sub_self, hn']
    cases r with
    | nil => simp
    | cons d t => simp; exact h d rfl
theorem end_ext {r : List UInt8} (hr : sepR r) (L : List UInt8) (n : Nat) (hn : n ≤ L.length) : numEnd (L ++ r) n = numEnd L n := by
  unfold numEnd
  by_cases hl : n < L.length
  · rw [List.getElem?_append_left hl]
  · have : n = L.length := by omega
    subst this
    have hn' : L[L.length]? = none := List.getElem?_eq_none (Nat.le_refl _)
    rw [List.getElem?_append_right (Nat.le_refl _), Nat.sub_self, hn']
    cases r with
    | nil => rfl
    | cons d t =>
      obtain ⟨_, _, f3, _, _, _, _, f8⟩ := sep_at hr (d := d) rfl
      simp [f3, f8]
theorem numF_ext {r : List UInt8} (hr : sepR r) (L : List UInt8) : numF (L ++ r) = numF L := by
  have g46 : ∀ n, n ≤ L.length → (((L ++ r)[n]? = some 46) ↔ (L[n]? = some 46)) := fun n hn => get_ext L n hn 46 (fun d h e => (sep_at hr h).2.2.2.1 (by rw [e]; rfl))
  have g101 : ∀ n, n ≤ L.length → (((L ++ r)[n]? = some 101) ↔ (L[n]? = some 101)) := fun n hn => get_ext L n hn 101 (fun d h e => (sep_at hr h).2.2.2.2.1 (by rw [e]; rfl))
  have g45 : ∀ n, n ≤ L.length → (((L ++ r)[n]? = some 45) ↔ (L[n]? = some 45)) := fun n hn => get_ext L n hn 45 (fun d h e => (sep_at hr h).2.2.2.2.2.1 (by rw [e]; rfl))
  have d0 : dl (L ++ r) = dl L := by have := dl_ext hr L 0 (by omega); simpa using this
  have l0 := dl_le L
  unfold numF
  rw [d0]
  by_cases h2 : L[dl L]? = some 46
  rotate_left
  · rw [if_neg h2, if_neg (fun e => h2 ((g46 _ l0).1 e)), end_ext hr L _ l0]
  have hlt := at_lt h2
  rw [if_pos h2, if_pos ((g46 _ l0).2 h2), dl_ext hr L (dl L + 1) (by omega)]
  have l1 := dl_drop_le L (dl L + 1) (by omega)
  rw [show dl L + 1 + dl (L.drop (dl L + 1)) = dl L + (1 + dl (L.drop (dl L + 1))) by omega] at l1
  by_cases h3 : dl (L.drop (dl L + 1)) = 0
  · rw [if_pos h3, if_pos h3]
  rw [if_neg h3, if_neg h3]
  generalize dl L + (1 + dl (L.drop (dl L + 1))) = m at l1 ⊢
  by_cases h5 : L[m]? = some 101
  rotate_left
  · rw [if_neg h5, if_neg (fun e => h5 ((g101 _ l1).1 e)), end_ext hr L _ l1]
  have hlt5 := at_lt h5
  rw [if_pos h5, if_pos ((g101 _ l1).2 h5)]
  by_cases h7 : L[m + 1]? = some 45
  · have hlt7 := at_lt h7
    rw [if_pos h7, if_pos ((g45 _ (by omega)).2 h7), dl_ext hr L (m + 1 + 1) (by omega)]
    have l3 := dl_drop_le L (m + 1 + 1) (by omega)
    rw [end_ext hr L _ l3]
  · rw [if_neg h7, if_neg (fun e => h7 ((g45 _ (by omega)).1 e)), dl_ext hr L (m + 1) (by omega)]
    have l3 := dl_drop_le L (m + 1) (by omega)
    rw [end_ext hr L _ l3]
theorem byte_of (c : UInt8) : UInt8.ofNat ((c.toNat : Int)).toNat = c := by simp
theorem hex_facts : ∀ k : Fin 16, hexV (UInt8.ofNat (bt hexT ((k.val : Nat) : Int)).toNat).toNat = some k.val := by decide +kernel
theorem escP_two (h1 h2 : UInt8) (t : List UInt8) (a b : Nat) (ha : hexV h1.toNat = some a) (hb : hexV h2.toNat = some b) : escP (120 :: h1 :: h2 :: t) = ((16 * a + b : Int), 3, true) := by
  simp [escP, ha, hb]
theorem qF_quote : ∀ (T r : List UInt8) (out : List Int) (i : Nat), qF (byL (quoteB T) ++ 34 :: r) out i = (out ++ T.map (fun c => (c.toNat : Int)), i + (quoteB T).length + 1, true)
  | [], r, out, i => by
    rw [show byL (quoteB []) ++ 34 :: r = 34 :: r from rfl, qF_end rfl]
    simp [quoteB]
  | c :: t, r, out, i => by
    have ih := qF_quote t r
    have hq : quoteB (c :: t) = escQ c.toNat ++ quoteB t := rfl
    rw [hq, byL_append, List.append_assoc, List.length_append]
    by_cases hp : c.toNat = 34 ∨ c.toNat = 92
    · have he : escQ c.toNat = [92, (c.toNat : Int)] := by unfold escQ; rw [if_pos hp]
      rw [he, show byL [92, (c.toNat : Int)] = [92, c] by simp [byL]]
      rw [List.cons_append, List.cons_append, List.nil_append, qF_esc rfl]
      have e1 : escP (c :: (byL (quoteB t) ++ 34 :: r)) = ((c.toNat : Int), 1, true) := by simp only [escP]; rw [if_pos hp]
      unfold escK
      rw [e1]
      simp only [if_true]
      rw [show (1 : Int).toNat = 1 from rfl, List.drop_succ_cons, List.drop_zero, ih]
      simp; omega
    by_cases h10 : c.toNat = 10
    · have he : escQ c.toNat = [92, 110] := by unfold escQ; rw [if_neg hp, if_pos h10]
      rw [he, show byL [92, 110] = [92, 110] from rfl]
      rw [List.cons_append, List.cons_append, List.nil_append, qF_esc rfl]
      have e1 : escP (110 :: (byL (quoteB t) ++ 34 :: r)) = (10, 1, true) := by simp [escP]
      unfold escK
      rw [e1]
      simp only [if_true]
      rw [show (1 : Int).toNat = 1 from rfl, List.drop_succ_cons, List.drop_zero, ih]
      simp [h10]; omega
    by_cases hr : 32 ≤ c.toNat ∧ c.toNat ≤ 126
    · have he : escQ c.toNat = [(c.toNat : Int)] := by unfold escQ; rw [if_neg hp, if_neg h10, if_pos hr]
      rw [he, show byL [(c.toNat : Int)] = [c] by simp [byL]]
      rw [List.cons_append, List.nil_append, qF_plain (fun e => hp (Or.inl e)) (by omega) (fun e => hp (Or.inr e)), ih]
      simp; omega
    · have he : escQ c.toNat = [92, 120, bt hexT ((c.toNat / 16 : Nat) : Int), bt hexT ((c.toNat % 16 : Nat) : Int)] := by unfold escQ; rw [if_neg hp, if_neg h10, if_neg hr]
      have hc := c.toNat_lt
      have k1 := hex_facts ⟨c.toNat / 16, by omega⟩
      have k2 := hex_facts ⟨c.toNat % 16, by omega⟩
      rw [he, show byL [92, 120, bt hexT ((c.toNat / 16 : Nat) : Int), bt hexT ((c.toNat % 16 : Nat) : Int)] = [92, 120, UInt8.ofNat (bt hexT ((c.toNat / 16 : Nat) : Int)).toNat, UInt8.ofNat (bt hexT ((c.toNat % 16 : Nat) : Int)).toNat] from rfl]
      rw [List.cons_append, List.cons_append, List.cons_append, List.cons_append, List.nil_append, qF_esc rfl]
      unfold escK
      rw [escP_two _ _ _ _ _ k1 k2]
      simp only [if_true]
      rw [show (3 : Int).toNat = 3 from rfl, List.drop_succ_cons, List.drop_succ_cons, List.drop_succ_cons, List.drop_zero, ih]
      simp only [List.length_cons, List.length_nil, List.map_cons, Prod.mk.injEq, and_true]
      refine ⟨?_, by omega⟩
      rw [List.append_assoc]
      congr 1
      rw [List.cons_append, List.nil_append]
      congr 1
      omega
theorem bytes_ext {a b : ByteArray} (h : a.data.toList = b.data.toList) : a = b := by
  cases a with
  | mk a =>
    cases b with
    | mk b => simp at h; subst h; rfl
structure PieceP (x : S37) (r : List UInt8) (c : UInt8) (T : List UInt8) : Prop where
  eq : byL (tokB x) = c :: T
  blank : blankN c.toNat = false
  rem : ¬ (c.toNat = 47 ∧ (T ++ r).head? = some 47)
  nx : nxm (c :: (T ++ r)) = (T.length + 1, true)
  tok : ∀ t : ByteArray, t.data.toList = c :: (T ++ r) → tokF t (c :: (T ++ r)) = (x.f0, x.f1)
theorem take_piece (t : ByteArray) (c : UInt8) (T r : List UInt8) (s : ByteArray) (hs : s.data.toList = c :: T) (ht : t.data.toList = c :: (T ++ r)) : t.extract 0 (T.length + 1) = s := by
  apply bytes_ext
  rw [extract_take, ht, hs]
  simp
theorem piece_scan (x : S37) (b : Bool) (hm : mayF x.f0 x.f1 b = true) (h7 : x.f0 ≠ 7) (r : List UInt8) (hr : sepR r) (h47 : byL (tokB x) = [47] → r.head? ≠ some 47) : ∃ c T, PieceP x r c T := by
  by_cases h5 : x.f0 = 5
  · refine ⟨34, byL (quoteB x.f1.data.toList) ++ [34], ?_, by decide, fun h => absurd h.1 (by decide), ?_, ?_⟩
    · rw [tokB_5 h5]
      unfold quoteF
      rw [show (34 :: (quoteB x.f1.data.toList ++ [34])) = [34] ++ (quoteB x.f1.data.toList ++ [34]) from rfl, byL_append, byL_append]
      rfl
    · have hq := qF_quote x.f1.data.toList r [] 0
      rw [List.append_assoc, List.cons_append, List.nil_append, nxm_cons, if_neg (by decide), if_neg (by decide), if_pos (by decide), hq]
      simp [byL_len]; omega
    · intro t ht
      have hq := qF_quote x.f1.data.toList r [] 0
      rw [List.append_assoc, List.cons_append, List.nil_append, tokF_cons, if_neg (by decide), if_neg (by decide), if_pos (by decide), hq, h5]
      congr 1
      apply bytes_ext
      rw [strOfNums_data, List.nil_append, List.map_map]
      conv => rhs; rw [← List.map_id x.f1.data.toList]
      apply List.map_congr_left
      intro d _
      simp
  have hB : byL (tokB x) = x.f1.data.toList := by rw [tokB_n h5, byL_bytes]
  rw [hB] at h47
  by_cases hone : x.f0 = 1 ∨ x.f0 = 2 ∨ x.f0 = 6
  · rw [mayF_one hone] at hm
    cases hL : x.f1.data.toList with
    | nil => rw [hL] at hm; simp [oneK] at hm
    | cons c T =>
      rw [hL] at hm h47 hB
      rw [oneK_cons] at hm
      simp only [Bool.and_eq_true, decide_eq_true_eq, Bool.not_eq_true', decide_eq_false_iff_not, List.length_cons] at hm
      obtain ⟨hlen, ⟨hbl, hrm⟩, hok, hn, hk⟩ := hm
      have hrem : ¬ (c.toNat = 47 ∧ (T ++ r).head? = some 47) := by
        intro h
        cases T with
        | nil =>
          have : c = 47 := UInt8.toNat_inj.mp h.1
          exact h47 (by rw [this]) (by simpa using h.2)
        | cons d t => exact hrm ⟨h.1, by simpa using h.2⟩
      by_cases hs : smallN c.toNat = true
      · have e1 : rl (c :: (T ++ r)) = rl (c :: T) := by have := rl_ext hr (c :: T); simpa using this
        rw [nxm_cons, if_pos hs] at hok hn
        have h33 : ¬ 33 ≤ rl (c :: T) := fun h => by rw [if_pos h] at hok; cases hok
        rw [if_neg h33] at hn
        simp only at hn
        have hnx : nxm (c :: (T ++ r)) = (T.length + 1, true) := by rw [nxm_cons, if_pos hs, e1, if_neg h33, hn]
        refine ⟨c, T, hB, hbl, hrem, hnx, ?_⟩
        intro t ht
        rw [tokF_cons, if_pos hs, hnx, e1, hn]
        simp only
        rw [take_piece t c T r x.f1 hL ht]
        congr 1
        rw [kindF_cons, if_pos hs, hn] at hk
        rw [← hk]
        rw [show (c :: (T ++ r)).take (T.length + 1) = c :: T by simp, show (c :: T).take (T.length + 1) = c :: T by simp]
      rw [kindF_cons, if_neg hs] at hk
      by_cases hd : digB c = true
      · rw [if_pos hd] at hk
        have := numF_kind (c :: T)
        omega
      rw [if_neg hd] at hk
      by_cases h34 : c.toNat = 34
      · rw [if_pos h34] at hk; omega
      rw [if_neg h34] at hk
      have hmk : mkF (c :: (T ++ r)) = mkF (c :: T) := by
        rw [mkF_cons, mkF_cons]
        cases T with
        | nil =>
          have : r.head? ≠ some 61 := fun e => (sep_at hr e).2.2.2.2.2.2.1 rfl
          simp [this]
        | cons d t => simp
      have hnx : nxm (c :: (T ++ r)) = (T.length + 1, true) := by
        rw [nxm_cons, if_neg hs, if_neg hd, if_neg h34, hmk]
        rw [nxm_cons, if_neg hs, if_neg hd, if_neg h34] at hok hn
        have h1 : ¬ mkF (c :: T) < 1 := fun h => by rw [if_pos h] at hok; cases hok
        rw [if_neg h1] at hn ⊢
        simp only at hn
        rw [hn]
      refine ⟨c, T, hB, hbl, hrem, hnx, ?_⟩
      intro t ht
      rw [tokF_cons, if_neg hs, if_neg hd, if_neg h34, hnx]
      simp only
      rw [take_piece t c T r x.f1 hL ht, hk]
  have hnum : ∃ k : Nat, (k = 3 ∨ k = 4) ∧ x.f0 = (k : Int) ∧ numTok x.f1.data.toList k = true := by
    by_cases h3 : x.f0 = 3
    · rw [mayF_3 h3] at hm
      exact ⟨3, Or.inl rfl, h3, by rw [intTok]; exact hm⟩
    by_cases h4 : x.f0 = 4
    · rw [mayF_4 h4] at hm
      exact ⟨4, Or.inr rfl, h4, by rw [realTok]; exact hm⟩
    · rw [mayF_x hone h3 h4 h5] at hm
      simp [h7] at hm
  obtain ⟨k, _, hk, hm⟩ := hnum
  unfold numTok at hm
  simp only [Bool.and_eq_true, decide_eq_true_eq] at hm
  obtain ⟨hd0, hok, hn, hkk⟩ := hm
  cases hL : x.f1.data.toList with
  | nil => rw [hL] at hd0; simp [dl] at hd0
  | cons c T =>
    rw [hL] at hd0 hok hn hkk hB
    have hd : digB c = true := by
      cases h : digB c with
      | true => rfl
      | false => exact absurd ((dl_zero c T).2 h) hd0
    have hdn : digitN c.toNat = true := hd
    have hs : ¬ smallN c.toNat = true := by
      unfold smallN; unfold digitN at hdn
      simp at hdn ⊢; omega
    have hbl : blankN c.toNat = false := by
      unfold blankN; unfold digitN at hdn
      simp at hdn ⊢; omega
    have h47' : c.toNat ≠ 47 := by
      unfold digitN at hdn
      simp at hdn; omega
    have hnx : nxm (c :: (T ++ r)) = (T.length + 1, true) := by
      have := numF_ext hr (c :: T)
      rw [List.cons_append] at this
      rw [nxm_cons, if_neg hs, if_pos hd, this, hok, hn]
      rfl
    refine ⟨c, T, hB, hbl, fun h => h47' h.1, hnx, ?_⟩
    intro t ht
    have := numF_ext hr (c :: T)
    rw [List.cons_append] at this
    rw [tokF_cons, if_neg hs, if_pos hd, hnx, this, hkk]
    simp only
    rw [take_piece t c T r x.f1 hL ht, hk]
def rowsP : Nat → Nat → List S37 → List S37
  | _, a, [] => [⟨7, ⟨#[]⟩, 1, (a : Int) + 1⟩]
  | i, a, x :: t => if x.f0 = 7 then [⟨7, ⟨#[]⟩, 1, (a : Int) + 1⟩] else ⟨x.f0, x.f1, 1, (((if 0 < i then a + 1 else a) : Nat) : Int) + 1⟩ :: rowsP (i + 1) ((if 0 < i then a + 1 else a) + (tokB x).length) t
theorem may_end {x : S37} {t : List S37} (hm : mayAll (x :: t) = true) (h7 : x.f0 = 7) : t = [] := by
  unfold mayAll at hm
  simp only [Bool.and_eq_true] at hm
  obtain ⟨h1, _⟩ := hm
  rw [mayF_x (by omega) (by omega) (by omega) (by omega)] at h1
  simp only [Bool.and_eq_true, beq_iff_eq] at h1
  exact List.length_eq_zero_iff.1 h1.2.2
theorem may_tail {x : S37} {t : List S37} (hm : mayAll (x :: t) = true) : mayAll t = true := by
  unfold mayAll at hm
  simp only [Bool.and_eq_true] at hm
  exact hm.2
theorem may_head {x : S37} {t : List S37} (hm : mayAll (x :: t) = true) : mayF x.f0 x.f1 (t.length == 0) = true := by
  unfold mayAll at hm
  simp only [Bool.and_eq_true] at hm
  exact hm.1
theorem addAll_cons (i : Nat) (x : S37) (t : List S37) : addAll i (x :: t) = addT i x ++ addAll (i + 1) t := rfl
theorem rest_head (i : Nat) : ∀ t : List S37, mayAll t = true → byL (addAll (i + 1) t) = [] ∨ (byL (addAll (i + 1) t)).head? = some 32
  | [], _ => Or.inl rfl
  | y :: t, hm => by
    by_cases h7 : y.f0 = 7
    · have := may_end hm h7
      subst this
      left
      rw [addAll_cons]
      unfold addT
      rw [if_pos h7]; rfl
    · right
      rw [addAll_cons]
      unfold addT
      rw [if_neg h7, if_pos (by omega)]
      rfl
theorem sep_rest (i : Nat) (t : List S37) (hm : mayAll t = true) : sepR (byL (addAll (i + 1) t)) := by
  intro d hd
  rcases rest_head i t hm with h | h
  · rw [h] at hd; cases hd
  · rw [h] at hd
    obtain rfl := Option.some.inj hd
    left; decide
theorem blk_stop (c : UInt8) (T : List UInt8) (a l h : Nat) (h4 : blankN c.toNat = false) (h5 : ¬ (c.toNat = 47 ∧ T.head? = some 47)) : blk false (c :: T) a l h = (a, l, h) := by
  have h10 : ¬ c.toNat = 10 := fun e => by simp [blankN, e] at h4
  have hib : isBlank c = false := by rw [blank_isBlank c h10]; exact h4
  unfold blk
  rw [if_neg h10, if_neg (by simp), if_neg (by simp [hib]), if_neg h5]
theorem blk_32 (L : List UInt8) (a l h : Nat) : blk false (32 :: L) a l h = blk false L (a + 1) l h := by
  conv => lhs; unfold blk
  rw [if_neg (by decide), if_neg (by simp), if_pos (by decide)]
theorem stop_32 (L : List UInt8) : stop0 (32 :: L) = sh 1 (stop0 L) := stop_go (c := 32) (t := L) (st := 0) (n := 0) (st' := 0) (n' := 1) rfl |>.trans (by rw [stop_n])
theorem tok_len (x : S37) (r : List UInt8) (c : UInt8) (T : List UInt8) (h : PieceP x r c T) : (tokB x).length = T.length + 1 := by
  have := congrArg List.length h.eq
  rw [byL_len] at this
  simpa using this
theorem scan_print (s : ByteArray) (hs : s.size ≤ 65536) : ∀ (l : List S37) (f i a : Nat), mayAll l = true → s.data.toList.drop a = byL (addAll i l) → a ≤ s.size → s.size < a + f →
    stop0 (s.data.toList.drop a) = none ∧ toksF s f a 1 0 = rowsP i a l := by
  have fin : ∀ (f a : Nat), s.data.toList.drop a = [] → a ≤ s.size → s.size < a + f → stop0 (s.data.toList.drop a) = none ∧ toksF s f a 1 0 = [⟨7, ⟨#[]⟩, 1, (a : Int) + 1⟩] := by
    intro f a hd ha hf
    refine ⟨by rw [hd]; rfl, ?_⟩
    have he : a = s.size := by
      have := congrArg List.length hd
      rw [List.length_drop, len_toList] at this
      simp at this; omega
    cases f with
    | zero => omega
    | succ f =>
      unfold toksF
      rw [hd, show blk false [] a 1 0 = (a, 1, 0) from rfl]
      simp only
      rw [if_pos he]
      simp
  intro l
  induction l with
  | nil =>
    intro f i a hm hd ha hf
    exact fin f a hd ha hf
  | cons x t ih =>
    intro f i a hm hd ha hf
    by_cases h7 : x.f0 = 7
    · have ht := may_end hm h7
      subst ht
      have : rowsP i a [x] = [⟨7, ⟨#[]⟩, 1, (a : Int) + 1⟩] := by unfold rowsP; rw [if_pos h7]
      rw [this]
      refine fin f a ?_ ha hf
      rw [hd, addAll_cons]
      unfold addT
      rw [if_pos h7]; rfl
    have hrest := sep_rest i t (may_tail hm)
    have h47 : byL (tokB x) = [47] → (byL (addAll (i + 1) t)).head? ≠ some 47 := by
      intro _ e
      rcases rest_head i t (may_tail hm) with h | h
      · rw [h] at e; cases e
      · rw [h] at e; cases e
    obtain ⟨c, T, P⟩ := piece_scan x _ (may_head hm) h7 _ hrest h47
    have hlen := tok_len x _ c T P
    have hp : ∃ p, p = (if 0 < i then a + 1 else a) ∧ s.data.toList.drop p = c :: (T ++ byL (addAll (i + 1) t)) ∧ p ≤ s.size ∧ a ≤ p ∧ blk false (s.data.toList.drop a) a 1 0 = (p, 1, 0) ∧ (stop0 (s.data.toList.drop p) = none → stop0 (s.data.toList.drop a) = none) := by
      by_cases hi : 0 < i
      · have hda : s.data.toList.drop a = 32 :: (c :: (T ++ byL (addAll (i + 1) t))) := by
          rw [hd, addAll_cons]
          unfold addT
          rw [if_neg h7, if_pos hi, byL_append, byL_append, P.eq]; rfl
        have hd1 : s.data.toList.drop (a + 1) = c :: (T ++ byL (addAll (i + 1) t)) := by
          rw [← List.drop_drop, hda]; rfl
        refine ⟨a + 1, by rw [if_pos hi], hd1, ?_, by omega, ?_, ?_⟩
        · have := congrArg List.length hda
          rw [List.length_drop, len_toList, List.length_cons] at this
          omega
        · rw [hda, blk_32, blk_stop c _ _ _ _ P.blank P.rem]
        · intro h
          rw [hd1] at h
          rw [hda, stop_32, h]; rfl
      · have hda : s.data.toList.drop a = c :: (T ++ byL (addAll (i + 1) t)) := by
          rw [hd, addAll_cons]
          unfold addT
          rw [if_neg h7, if_neg hi, byL_append, byL_append, P.eq]; rfl
        exact ⟨a, by rw [if_neg hi], hda, ha, Nat.le_refl _, by rw [hda, blk_stop c _ _ _ _ P.blank P.rem], fun h => h⟩
    obtain ⟨p, e1, e2, e3, e4, e5, e6⟩ := hp
    have hz : s.size - p = T.length + 1 + (byL (addAll (i + 1) t)).length := by
      have := congrArg List.length e2
      rw [List.length_drop, len_toList, List.length_cons, List.length_append] at this
      omega
    cases f with
    | zero => omega
    | succ f =>
      have hdn : s.data.toList.drop (p + (T.length + 1)) = byL (addAll (i + 1) t) := by
        rw [← List.drop_drop, e2]; simp
      obtain ⟨i1, i2⟩ := ih f (i + 1) (p + (T.length + 1)) (may_tail hm) hdn (by omega) (by omega)
      have hst : stop0 (s.data.toList.drop p) = none := by
        rw [e2, stop_next c _ P.blank P.rem, P.nx]
        simp only [okStop, if_true]
        rw [show (c :: (T ++ byL (addAll (i + 1) t))).drop (T.length + 1) = byL (addAll (i + 1) t) by simp, ← hdn, i1]
        rfl
      refine ⟨e6 hst, ?_⟩
      unfold toksF rowsP
      rw [if_neg h7, e5]
      simp only
      rw [if_neg (by omega), ← e1, hlen]
      have htk := P.tok (s.extract p s.size) (by rw [tail_toList, e2])
      rw [e2, htk, P.nx, i2]
      simp
def ownF : List S37 → List S37
  | [] => []
  | x :: t => if x.f0 = 7 then [] else x :: ownF t
theorem own_split : ∀ l : List S37, mayAll l = true → (∀ x ∈ ownF l, x.f0 ≠ 7) ∧ (l = ownF l ∨ ∃ e, l = ownF l ++ [e] ∧ e.f0 = 7)
  | [], _ => ⟨by simp [ownF], Or.inl rfl⟩
  | x :: t, hm => by
    by_cases h7 : x.f0 = 7
    · have ht := may_end hm h7
      subst ht
      have e : ownF [x] = [] := by unfold ownF; rw [if_pos h7]
      rw [e]
      exact ⟨by simp, Or.inr ⟨x, rfl, h7⟩⟩
    · have e : ownF (x :: t) = x :: ownF t := by
        conv => lhs; unfold ownF
        rw [if_neg h7]
      rw [e]
      obtain ⟨a, b⟩ := own_split t (may_tail hm)
      refine ⟨?_, ?_⟩
      · intro y hy
        rcases List.mem_cons.1 hy with rfl | hy
        · exact h7
        · exact a y hy
      · rcases b with b | ⟨z, b, hz⟩
        · left; rw [← b]
        · right; exact ⟨z, by rw [List.cons_append, ← b], hz⟩
theorem wrap_pred {n : Nat} (h0 : 0 < n) (h : n ≤ 4611686018427387904) : wrap64 ((n : Int) - 1) = ((n - 1 : Nat) : Int) := by rw [w64 (by omega) (by omega)]; omega
theorem ahead_app (O : List S37) (e : S37) (he : e.f0 = 7) (hl : O.length ≤ 4294967296) : latchkeylaw05_ahead.f (O ++ [e]) = some O := by
  unfold latchkeylaw05_ahead.f
  have hlen : (O ++ [e]).length = O.length + 1 := by simp
  rw [hlen, wrap_pred (by omega) (by omega), Nat.add_sub_cancel]
  have hd : (O ++ [e]).drop O.length = [e] := by simp
  rw [if_pos (by omega), if_pos (by omega), if_pos (by omega), rd_at _ O.length e [] hd, if_pos he, if_pos (by omega)]
  simp
theorem ahead_own (O : List S37) (h : ∀ x ∈ O, x.f0 ≠ 7) (hl : O.length ≤ 4294967296) : latchkeylaw05_ahead.f O = some O := by
  unfold latchkeylaw05_ahead.f
  by_cases h0 : 0 < O.length
  · rw [if_pos (by omega), wrap_pred h0 (by omega), if_pos (by omega), if_pos (by omega)]
    obtain ⟨x, t, e1, e2, e3⟩ := ldrop_cons (l := O) (i := O.length - 1) (by omega)
    rw [rd_at O _ x t e1, if_neg (h x e3)]
  · rw [if_neg (by omega)]
theorem ahead_may (l : List S37) (hm : mayAll l = true) (hl : l.length ≤ 4294967296) : latchkeylaw05_ahead.f l = some (ownF l) := by
  obtain ⟨a, b⟩ := own_split l hm
  rcases b with b | ⟨e, b, he⟩
  · have := ahead_own (ownF l) a (by rw [← b]; exact hl)
    rw [← b] at this ⊢
    exact this
  · have hlen : l.length = (ownF l).length + 1 := by
      have := congrArg List.length b
      simpa using this
    have := ahead_app (ownF l) e he (by omega)
    rwa [← b] at this
theorem copy_ev (l : List S37) (hw : wt l ≤ 2147483647) : Ev (fun k => latchkeyref00_CopyTokens.f k l) l := by
  have hlen := wt_len l
  unfold latchkeyref00_CopyTokens.f
  have k0 : ∀ (N i : Nat), l.length - i ≤ N → i ≤ l.length → Ev (fun k => latchkeyref00_CopyTokens.l0 k l (l.take i) (i : Int)) l := by
    intro N
    have fin : ∀ i : Nat, ¬ i < l.length → Ev (fun k => latchkeyref00_CopyTokens.l0 k l (l.take i) (i : Int)) l := by
      intro i h
      rw [List.take_of_length_le (by omega)]
      refine Ev.succ ?_
      unfold latchkeyref00_CopyTokens.l0
      exact Ev.neg (by omega) (Ev.pure _)
    induction N with
    | zero => intro i h1 h2; exact fin i (by omega)
    | succ N ih =>
      intro i h1 h2
      by_cases h : i < l.length
      rotate_left
      · exact fin i h
      obtain ⟨x, t, e1, e2, e3⟩ := ldrop_cons h
      have hn := ih (i + 1) (by omega) (by omega)
      rw [take_add1 l i x _ e1] at hn
      refine Ev.succ ?_
      unfold latchkeyref00_CopyTokens.l0
      rw [rd_at l i x t e1, tk_nat (by omega)]
      refine Ev.pos (by omega) (Ev.pos (by omega) (Ev.pos ?_ hn))
      rw [List.length_take]; omega
  have := k0 l.length 0 (by omega) (by omega)
  rw [List.take_zero] at this
  exact this
def kt (x : S37) : Int × ByteArray := (x.f0, x.f1)
theorem alike_ev (A B : List S37) (h : A.map kt = B.map kt) (hl : A.length ≤ 4294967296) : Ev (fun k => latchkeylaw05_alike.l0 k A B 0) true := by
  have hlen : A.length = B.length := by have := congrArg List.length h; simpa using this
  have key : ∀ (N i : Nat), A.length - i ≤ N → i ≤ A.length → Ev (fun k => latchkeylaw05_alike.l0 k A B (i : Int)) true := by
    intro N
    have fin : ∀ i : Nat, ¬ i < A.length → Ev (fun k => latchkeylaw05_alike.l0 k A B (i : Int)) true := by
      intro i h
      refine Ev.succ ?_
      unfold latchkeylaw05_alike.l0
      exact Ev.neg (by omega) (Ev.pure _)
    induction N with
    | zero => intro i h1 h2; exact fin i (by omega)
    | succ N ih =>
      intro i h1 h2
      by_cases hi : i < A.length
      rotate_left
      · exact fin i hi
      obtain ⟨x, t, e1, e2, e3⟩ := ldrop_cons hi
      obtain ⟨y, u, f1, f2, f3⟩ := ldrop_cons (l := B) (i := i) (by omega)
      have hxy : kt x = kt y := by
        have hd := congrArg (List.drop i) h
        rw [← List.map_drop, ← List.map_drop, e1, f1] at hd
        simp only [List.map_cons, List.cons.injEq] at hd
        exact hd.1
      unfold kt at hxy
      injection hxy with hx1 hx2
      have hn := ih (i + 1) (by omega) (by omega)
      refine Ev.succ ?_
      unfold latchkeylaw05_alike.l0
      rw [rd_at A i x t e1, rd_at B i y u f1, tk_nat (by omega)]
      exact Ev.pos (by omega) (Ev.pos (by omega) (Ev.pos (by omega) (Ev.pos hx1 (Ev.pos (by rw [hx2]) hn))))
  exact key A.length 0 (by omega) (by omega)
theorem rowsP_kt : ∀ (l : List S37) (i a : Nat), ∃ R e, rowsP i a l = R ++ [e] ∧ e.f0 = 7 ∧ R.map kt = (ownF l).map kt
  | [], i, a => ⟨[], ⟨7, ⟨#[]⟩, 1, (a : Int) + 1⟩, rfl, rfl, rfl⟩
  | x :: t, i, a => by
    unfold rowsP ownF
    by_cases h7 : x.f0 = 7
    · rw [if_pos h7, if_pos h7]
      exact ⟨[], ⟨7, ⟨#[]⟩, 1, (a : Int) + 1⟩, rfl, rfl, rfl⟩
    · rw [if_neg h7, if_neg h7]
      obtain ⟨R, e, r1, r2, r3⟩ := rowsP_kt t (i + 1) ((if 0 < i then a + 1 else a) + (tokB x).length)
      rw [r1]
      exact ⟨_ :: R, e, rfl, r2, by rw [List.map_cons, List.map_cons, r3]; rfl⟩
theorem addAll_one (x : S37) (h7 : x.f0 ≠ 7) : addAll 0 [x] = tokB x := by
  rw [addAll_cons]
  unfold addT
  rw [if_neg h7, if_neg (by omega)]
  simp [addAll]
theorem mayF_last {x : S37} {b c : Bool} (h7 : x.f0 ≠ 7) (h : mayF x.f0 x.f1 b = true) : mayF x.f0 x.f1 c = true := by
  unfold mayF at h ⊢
  simpa [h7] using h
theorem one_print (x : S37) (b : Bool) (h7 : x.f0 ≠ 7) (hm : mayF x.f0 x.f1 b = true) (hl : (tokB x).length ≤ 65536) (hs : 8 + x.f1.size ≤ 2147483647) : Ev (fun k => tokens_Print.f k [x]) (strOfNums (tokB x), 0) := by
  have := tokprint_ev [x] (by simp [wt]; omega)
  refine this.val ?_
  unfold printV
  rw [if_pos (by unfold mayAll; simp [mayAll, mayF_last (c := true) h7 hm])]
  unfold printTail
  rw [addAll_one x h7, List.nil_append, if_neg (by omega)]
theorem pieces_ev (O : List S37) (hO : ∀ x ∈ O, x.f0 ≠ 7 ∧ (∃ b, mayF x.f0 x.f1 b = true) ∧ (tokB x).length ≤ 65536 ∧ 8 + x.f1.size ≤ 2147483647) (hl : O.length ≤ 2147483647) : Ev (fun k => latchkeylaw05_pieces.f k O) (O.map (fun x => strOfNums (tokB x)), true) := by
  unfold latchkeylaw05_pieces.f
  have k0 : ∀ (N i : Nat), O.length - i ≤ N → i ≤ O.length → Ev (fun k => latchkeylaw05_pieces.l0 k O ((O.take i).map (fun x => strOfNums (tokB x))) (i : Int)) (O.map (fun x => strOfNums (tokB x)), true) := by
    intro N
    have fin : ∀ i : Nat, ¬ i < O.length → Ev (fun k => latchkeylaw05_pieces.l0 k O ((O.take i).map (fun x => strOfNums (tokB x))) (i : Int)) (O.map (fun x => strOfNums (tokB x)), true) := by
      intro i h
      rw [List.take_of_length_le (by omega)]
      refine Ev.succ ?_
      unfold latchkeylaw05_pieces.l0
      exact Ev.neg (by omega) (Ev.pure _)
    induction N with
    | zero => intro i h1 h2; exact fin i (by omega)
    | succ N ih =>
      intro i h1 h2
      by_cases h : i < O.length
      rotate_left
      · exact fin i h
      obtain ⟨x, t, e1, e2, e3⟩ := ldrop_cons h
      obtain ⟨g1, ⟨b, g2⟩, g3, g4⟩ := hO x e3
      have hn := ih (i + 1) (by omega) (by omega)
      rw [take_add1 O i x _ e1, List.map_append] at hn
      refine Ev.succ ?_
      unfold latchkeylaw05_pieces.l0
      rw [rd_at O i x t e1, tk_nat (by omega)]
      refine Ev.pos (by omega) (Ev.pos (by omega) (Ev.bind (one_print x b g1 g2 g3 g4) (Ev.pos rfl (Ev.pos ?_ hn))))
      rw [List.length_map, List.length_take]; omega
  have := k0 O.length 0 (by omega) (by omega)
  exact this
theorem rdOf_at (l : List ByteArray) (i : Nat) (x : ByteArray) (t : List ByteArray) (h : l.drop i = x :: t) : rdOf ByteArray.empty l (i : Int) = x := by
  unfold rdOf
  rw [show ((i : Int)).toNat = i by omega]
  have : l[i]? = some x := by
    have := congrArg (·[0]?) h
    simpa using this
  simp [List.getD, this]
def pb (x : S37) : ByteArray := strOfNums (tokB x)
theorem pb_size (x : S37) : (pb x).size = (tokB x).length := strOfNums_size _
theorem pb_data (x : S37) : (pb x).data.toList = byL (tokB x) := strOfNums_data _
theorem len_of_drop {α : Type} {l : List α} {i : Nat} {x : α} {t : List α} (h : l.drop i = x :: t) : i < l.length ∧ l.length = i + 1 + t.length := by
  have := congrArg List.length h
  rw [List.length_drop, List.length_cons] at this
  omega
theorem wcol (p n : Nat) (hb1 : p + n ≤ 65536) : wrap64 (((p + 1 : Nat) : Int) + (n : Int)) = ((p + n + 1 : Nat) : Int) := by
  have h1 : (-9223372036854775808 : Int) ≤ ((p + 1 : Nat) : Int) + (n : Int) := by omega
  have h2 : ((p + 1 : Nat) : Int) + (n : Int) < 9223372036854775808 := by omega
  have h4 : ((p + 1 : Nat) : Int) + (n : Int) = ((p + n + 1 : Nat) : Int) := by omega
  exact Eq.trans (w64 h1 h2) h4
theorem wadd (p n : Nat) (hb1 : p + n ≤ 65536) : wrap64 ((p : Int) + (n : Int)) = ((p + n : Nat) : Int) := by
  have h1 : (-9223372036854775808 : Int) ≤ (p : Int) + (n : Int) := by omega
  have h2 : (p : Int) + (n : Int) < 9223372036854775808 := by omega
  have h4 : (p : Int) + (n : Int) = ((p + n : Nat) : Int) := by omega
  exact Eq.trans (w64 h1 h2) h4
theorem wsub (p : Nat) (hb1 : p ≤ 70000) : wrap64 (((p + 1 : Nat) : Int) - 1) = (p : Int) := by
  have h1 : (-9223372036854775808 : Int) ≤ ((p + 1 : Nat) : Int) - 1 := by omega
  have h2 : ((p + 1 : Nat) : Int) - 1 < 9223372036854775808 := by omega
  have h4 : ((p + 1 : Nat) : Int) - 1 = (p : Int) := by omega
  exact Eq.trans (w64 h1 h2) h4
theorem there_loop (s : ByteArray) (m : List S37) (parts : List ByteArray) (hs : s.size ≤ 65536) : ∀ (L : List S37) (i a : Nat), i ≤ a → parts.length = i + (ownF L).length → parts.drop i = (ownF L).map pb → m.drop i = rowsP i a L → s.data.toList.drop a = byL (addAll i L) → a ≤ s.size → mayAll L = true → L.length + i ≤ 4294967296 →
    Ev (fun k => latchkeylaw05_TokensThere.l0 k s m parts (((if (ownF L).length = 0 then a + 1 else (if 0 < i then a + 1 else a) + 1 : Nat)) : Int) (i : Int)) true := by
  have fin : ∀ (i a : Nat), i ≤ a → parts.length = i → m.drop i = [⟨7, ⟨#[]⟩, 1, (a : Int) + 1⟩] → s.data.toList.drop a = [] → a ≤ s.size → Ev (fun k => latchkeylaw05_TokensThere.l0 k s m parts ((a + 1 : Nat) : Int) (i : Int)) true := by
    intro i a hi hp hm hd ha
    obtain ⟨h1, h2⟩ := len_of_drop hm
    have he : a = s.size := by
      have := congrArg List.length hd
      rw [List.length_drop, len_toList] at this
      simp at this; omega
    refine Ev.succ ?_
    unfold latchkeylaw05_TokensThere.l0
    simp only [List.length_nil, Nat.add_zero] at h2
    rw [h2, wrap_pred (n := i + 1) (by omega) (by omega), Nat.add_sub_cancel, rd_at m i _ _ hm, tk_nat (i := s.size) (by omega), he]
    exact Ev.neg (by omega) (Ev.pos (by omega) (Ev.pos (by omega) (Ev.pos rfl (Ev.const (by simp)))))
  intro L
  induction L with
  | nil =>
    intro i a hi hpl hp hm hd ha hmay hl
    rw [if_pos (show (ownF ([] : List S37)).length = 0 from rfl)]
    exact fin i a hi (by simpa [ownF] using hpl) hm hd ha
  | cons x t ih =>
    intro i a hi hpl hp hm hd ha hmay hl
    by_cases h7 : x.f0 = 7
    · have ht := may_end hmay h7
      subst ht
      have ho : ownF [x] = [] := by unfold ownF; rw [if_pos h7]
      rw [ho] at hpl hp ⊢
      rw [if_pos (show ([] : List S37).length = 0 from rfl)]
      refine fin i a hi (by simpa using hpl) ?_ ?_ ha
      · rw [hm]; unfold rowsP; rw [if_pos h7]
      · rw [hd, addAll_cons]; unfold addT; rw [if_pos h7]; rfl
    have ho : ownF (x :: t) = x :: ownF t := by
      conv => lhs; unfold ownF
      rw [if_neg h7]
    rw [ho] at hpl hp ⊢
    rw [if_neg (by simp)]
    simp only [List.length_cons, List.map_cons] at hpl hp
    have hpi : ∃ p, p = (if 0 < i then a + 1 else a) ∧ s.data.toList.drop p = byL (tokB x) ++ byL (addAll (i + 1) t) ∧ p ≤ s.size := by
      by_cases h0 : 0 < i
      · have hda : s.data.toList.drop a = 32 :: (byL (tokB x) ++ byL (addAll (i + 1) t)) := by
          rw [hd, addAll_cons]; unfold addT
          rw [if_neg h7, if_pos h0, byL_append, byL_append]; rfl
        refine ⟨a + 1, by rw [if_pos h0], by rw [← List.drop_drop, hda]; rfl, ?_⟩
        have := congrArg List.length hda
        rw [List.length_drop, len_toList, List.length_cons] at this
        omega
      · refine ⟨a, by rw [if_neg h0], ?_, ha⟩
        rw [hd, addAll_cons]; unfold addT
        rw [if_neg h7, if_neg h0, byL_append, byL_append]; rfl
    obtain ⟨p, e1, e2, e3⟩ := hpi
    have hz : s.size - p = (tokB x).length + (byL (addAll (i + 1) t)).length := by
      have := congrArg List.length e2
      rw [List.length_drop, len_toList, List.length_append, byL_len] at this
      exact this
    have hm' := hm
    unfold rowsP at hm'
    rw [if_neg h7, ← e1] at hm'
    obtain ⟨m1, m2⟩ := len_of_drop hm'
    have hm2 : m.drop (i + 1) = rowsP (i + 1) (p + (tokB x).length) t := by rw [← List.drop_drop, hm']; rfl
    have hp2 : parts.drop (i + 1) = (ownF t).map pb := by rw [← List.drop_drop, hp]; rfl
    have hd2 : s.data.toList.drop (p + (tokB x).length) = byL (addAll (i + 1) t) := by
      rw [← List.drop_drop, e2, List.drop_left' (byL_len _)]
    have hpos : 1 ≤ (tokB x).length := by
      obtain ⟨c, T, P⟩ := piece_scan x _ (may_head hmay) h7 [] (fun d h => by cases h) (fun _ h => by cases h)
      rw [tok_len x [] c T P]; omega
    have hap : a ≤ p := by rw [e1]; split <;> omega
    have hn := ih (i + 1) (p + (tokB x).length) (by omega) (by rw [hpl]; omega) hp2 hm2 hd2 (by omega) (may_tail hmay) (by simp only [List.length_cons] at hl; omega)
    clear ih fin
    rw [← e1]
    have hb1 : p + (tokB x).length ≤ 65536 := by clear hpl hl m1 m2 hap hpos e1; omega
    generalize hlen : (tokB x).length = n at *
    have hp7 : p ≤ 70000 := by clear hpl hl m1 m2; omega
    clear hap hpos e1
    refine Ev.succ ?_
    unfold latchkeylaw05_TokensThere.l0
    rw [rdOf_at parts i _ _ hp, rd_at m i _ _ hm', pb_size, hlen, wsub p hp7, wadd p n hb1]
    refine Ev.pos (by omega) (Ev.pos (by omega) (Ev.neg (by omega) (Ev.pos (by omega) (Ev.pos (by omega) (Ev.pos (by omega) (Ev.pos ?_ (Ev.pos (by omega) (Ev.pos rfl ?_))))))))
    · rw [Lib.toList_data, Lib.toList_data, pb_data, show ((p : Nat) : Int).toNat = p by omega, show (((p + n : Nat) : Int)).toNat = p + n by omega, ext_data, e2, show p + n - p = (byL (tokB x)).length by rw [byL_len, hlen]; omega, List.take_left]
    · simp only
      rw [show (((p : Nat) : Int) + 1 != ((p + 1 : Nat) : Int)) = false by rw [bne_eq_false_iff_eq]; omega]
      refine Ev.succ ?_
      unfold latchkeylaw05_TokensThere.j2
      rw [rdOf_at parts i _ _ hp, pb_size, hlen, wcol p n hb1, tk_nat (by omega)]
      refine Ev.neg (by simp) (Ev.pos (by omega) (Ev.pos (by omega) ?_))
      by_cases hlast : (ownF t).length = 0
      · refine Ev.neg (by omega) ?_
        rw [if_pos hlast] at hn
        exact hn
      · rw [if_neg hlast, if_pos (by omega)] at hn
        have h32 : ∃ r, byL (addAll (i + 1) t) = 32 :: r := by
          cases t with
          | nil => simp [ownF] at hlast
          | cons y u =>
            have hy : y.f0 ≠ 7 := by
              intro h
              unfold ownF at hlast
              rw [if_pos h] at hlast
              simp at hlast
            refine ⟨byL (tokB y) ++ byL (addAll (i + 1 + 1) u), ?_⟩
            rw [addAll_cons]; unfold addT
            rw [if_neg hy, if_pos (by omega), byL_append, byL_append]; rfl
        obtain ⟨r, hr⟩ := h32
        rw [hr] at hd2 hz
        obtain ⟨c, T, d1, d2, d3, d4⟩ := drop_cons (s := s) (i := p + n) (by simp only [List.length_cons] at hz; omega)
        rw [hd2] at d1
        injection d1 with d1 _
        rw [wsub (p + n) (by omega), d4, ← d1]
        simp only [List.length_cons] at hz
        refine Ev.pos (by omega) (Ev.neg (by omega) (Ev.pos (by omega) (Ev.pos (by omega) (Ev.pos rfl ?_))))
        rw [tk_nat (by omega)]
        exact hn
theorem scanV_ok {s : ByteArray} (hs : s.size ≤ 65536) (h : stop0 s.data.toList = none) : scanV s = (toksF s (s.size + 1) 0 1 0, 0, 0, 0) := by
  unfold scanV; rw [if_neg (by omega), h]
theorem wt_mem8 : ∀ (l : List S37) (x : S37), x ∈ l → 8 + x.f1.size ≤ wt l
  | y :: t, x, h => by
    unfold wt
    rcases List.mem_cons.1 h with e | e
    · subst e; omega
    · have := wt_mem8 t x e; omega
theorem own_mem : ∀ (l : List S37) (i : Nat) (x : S37), mayAll l = true → x ∈ ownF l → x ∈ l ∧ (∃ b, mayF x.f0 x.f1 b = true) ∧ (tokB x).length ≤ (addAll i l).length
  | [], _, _, _, h => by simp [ownF] at h
  | y :: t, i, x, hm, h => by
    by_cases h7 : y.f0 = 7
    · have e : ownF (y :: t) = [] := by
        conv => lhs; unfold ownF
        rw [if_pos h7]
      rw [e] at h; cases h
    · have e : ownF (y :: t) = y :: ownF t := by
        conv => lhs; unfold ownF
        rw [if_neg h7]
      rw [e] at h
      rw [addAll_cons, List.length_append]
      rcases List.mem_cons.1 h with e | e
      · subst e
        refine ⟨List.mem_cons_self .., ⟨_, may_head hm⟩, ?_⟩
        have : (tokB x).length ≤ (addT i x).length := by
          unfold addT
          rw [if_neg h7, List.length_append]; omega
        omega
      · obtain ⟨a, b, c⟩ := own_mem t (i + 1) x (may_tail hm) e
        exact ⟨List.mem_cons_of_mem _ a, b, by omega⟩
theorem own_len (l : List S37) : (ownF l).length ≤ l.length := by
  induction l with
  | nil => simp [ownF]
  | cons x t ih =>
    unfold ownF
    split
    · simp
    · simp only [List.length_cons]; omega
theorem there_pure (l : List S37) (hb : ∀ x ∈ l, x.f1.size ≤ 140737488355328) (hl : l.length ≤ 140737488355328) : ∃ k, latchkeylaw05_TokensThere.f k l = some true := by
  refine Ev.out (F := fun k => latchkeylaw05_TokensThere.f k l) ?_
  unfold latchkeylaw05_TokensThere.f
  obtain ⟨b, hB, hw⟩ := beyond_ev l hb hl
  refine Ev.bind hB ?_
  cases b with
  | true => exact Ev.pos rfl (Ev.pure _)
  | false =>
    have hw := hw rfl
    have hlen := wt_len l
    refine Ev.neg (by simp) (Ev.bind awake_ev (Ev.pos rfl (Ev.bind (copy_ev l hw) (Ev.bind (tokprint_ev l hw) ?_))))
    unfold printV
    by_cases hm : mayAll l = true
    rotate_left
    · rw [if_neg hm]
      exact Ev.neg (by simp) (Ev.pos (by rw [Lib.toList_data]) (Ev.pos rfl (Ev.pure _)))
    rw [if_pos hm]
    unfold printTail
    rw [List.nil_append]
    by_cases ht : 65536 < (addAll 0 l).length
    · rw [if_pos ht]
      exact Ev.neg (by simp) (Ev.pos (by rw [Lib.toList_data]) (Ev.neg (by simp) (Ev.const (by simp))))
    rw [if_neg ht]
    refine Ev.pos rfl ?_
    have hsz : (strOfNums (addAll 0 l)).size = (addAll 0 l).length := strOfNums_size _
    have hdat : (strOfNums (addAll 0 l)).data.toList = byL (addAll 0 l) := strOfNums_data _
    generalize strOfNums (addAll 0 l) = s at hsz hdat ⊢
    have hs : s.size ≤ 65536 := by omega
    obtain ⟨g1, g2⟩ := scan_print s hs l (s.size + 1) 0 0 hm (by rw [List.drop_zero, hdat]) (by omega) (by omega)
    rw [List.drop_zero] at g1
    have hsc := tokscan_ev s
    rw [scanV_ok hs g1, g2] at hsc
    obtain ⟨R, e, r1, r2, r3⟩ := rowsP_kt l 0 0
    have hown := own_len l
    have hRl : R.length = (ownF l).length := by have := congrArg List.length r3; simpa using this
    have hpieces := pieces_ev (ownF l) (fun x hx => by
      obtain ⟨a, b, c⟩ := own_mem l 0 x hm hx
      have := wt_mem8 l x a
      exact ⟨(own_split l hm).1 x hx, b, by omega, by omega⟩) (by omega)
    have hal : Ev (fun k => latchkeylaw05_alike.f k (rowsP 0 0 l) l) true := by
      unfold latchkeylaw05_alike.f
      have har : latchkeylaw05_ahead.f (rowsP 0 0 l) = some R := by rw [r1]; exact ahead_app R e r2 (by omega)
      exact Ev.bind (Ev.const har) (Ev.bind (Ev.const (ahead_may l hm (by omega))) (Ev.pos (by omega) (alike_ev R (ownF l) r3 (by omega))))
    have hloop := there_loop s (rowsP 0 0 l) ((ownF l).map pb) hs l 0 0 (by omega) (by simp) (by simp) (by simp) (by rw [List.drop_zero, hdat]) (by omega) hm (by omega)
    have hcol : (if (ownF l).length = 0 then 0 + 1 else (if 0 < 0 then 0 + 1 else 0) + 1) = 1 := by split <;> simp
    rw [hcol] at hloop
    have hml : (rowsP 0 0 l).length = R.length + 1 := by rw [r1]; simp
    refine Ev.bind hsc (Ev.bind (Ev.const (ahead_may l hm (by omega))) (Ev.bind hpieces (Ev.neg (by simp) (Ev.neg (by simp only; omega) (Ev.bind hal (Ev.pos rfl ?_))))))
    refine Ev.succ ?_
    unfold latchkeylaw05_TokensThere.j0
    exact Ev.neg (by simp) hloop
end Go.Proofs.YteedjhoffjkhmaaDoor.Q
