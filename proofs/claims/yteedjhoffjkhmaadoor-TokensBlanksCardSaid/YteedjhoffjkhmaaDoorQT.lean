import Derived.Test.YteedjhoffjkhmaaDoorQP
import Derived.Test.YteedjhoffjkhmaaDoorPTx23
import Derived.Test.YteedjhoffjkhmaaDoorPWb
namespace Go.Proofs.YteedjhoffjkhmaaDoor.Q
open Go.RowKit Go.Proofs.YteedjhoffjkhmaaDoor.PT Go.Proofs.YteedjhoffjkhmaaDoorW.PrintWords Go.Proofs.YteedjhoffjkhmaaDoorW.PrintLast Go.Proofs.YteedjhoffjkhmaaDoorW.PrintMore
set_option linter.unusedVariables false
set_option linter.unusedSimpArgs false
def byL (q : List Int) : List UInt8 := q.map fun n => UInt8.ofNat n.toNat
theorem byL_bytes (s : ByteArray) : byL (bytesOf s) = s.data.toList := by
  unfold byL bytesOf
  rw [List.map_map]
  conv => rhs; rw [← List.map_id s.data.toList]
  apply List.map_congr_left
  intro c _
  simp
theorem byL_append (a b : List Int) : byL (a ++ b) = byL a ++ byL b := by simp [byL]
theorem byL_len (a : List Int) : (byL a).length = a.length := by simp [byL]
def sepR (r : List UInt8) : Prop := ∀ d, r.head? = some d → blankN d.toNat = true ∨ d.toNat = 47
theorem sep_facts : ∀ c : Fin 256, (blankN c.val = true ∨ c.val = 47) → withinN c.val = false ∧ digitN c.val = false ∧ smallN c.val = false ∧ c.val ≠ 46 ∧ c.val ≠ 101 ∧ c.val ≠ 45 ∧ c.val ≠ 61 ∧ c.val ≠ 95 := by decide +kernel
theorem sep_at {r : List UInt8} (hr : sepR r) {d : UInt8} (h : r.head? = some d) : rowB d = false ∧ digB d = false ∧ smallB d = false ∧ d.toNat ≠ 46 ∧ d.toNat ≠ 101 ∧ d.toNat ≠ 45 ∧ d.toNat ≠ 61 ∧ d.toNat ≠ 95 := by
  obtain ⟨f1, f2, f3, f4, f5, f6, f7, f8⟩ := sep_facts ⟨d.toNat, d.toNat_lt⟩ (hr d h)
  exact ⟨by rw [rowB_within]; exact f1, f2, f3, f4, f5, f6, f7, f8⟩
theorem tw_ext (p : UInt8 → Bool) (r : List UInt8) (h : ∀ d, r.head? = some d → p d = false) : ∀ L : List UInt8, (L ++ r).takeWhile p = L.takeWhile p
  | [] => by
    cases r with
    | nil => rfl
    | cons d t => simp [List.takeWhile, h d rfl]
  | c :: t => by
    rw [List.cons_append]
    by_cases hc : p c = true
    · rw [List.takeWhile_cons_of_pos hc, List.takeWhile_cons_of_pos hc, tw_ext p r h t]
    · rw [List.takeWhile_cons_of_neg hc, List.takeWhile_cons_of_neg hc]
theorem rl_ext {r : List UInt8} (hr : sepR r) (L : List UInt8) : rl (L ++ r) = rl L := by
  unfold rl; rw [tw_ext rowB r (fun d h => (sep_at hr h).1)]
theorem dl_ext {r : List UInt8} (hr : sepR r) (L : List UInt8) (n : Nat) (hn : n ≤ L.length) : dl ((L ++ r).drop n) = dl (L.drop n) := by
  unfold dl
  rw [List.drop_append_of_le_length hn, tw_ext digB r (fun d h => (sep_at hr h).2.1)]
theorem get_ext {r : List UInt8} (L : List UInt8) (n : Nat) (hn : n ≤ L.length) (v : UInt8) (h : ∀ d, r.head? = some d → d ≠ v) : ((L ++ r)[n]? = some v) ↔ (L[n]? = some v) := by
  by_cases hl : n < L.length
  · rw [List.getElem?_append_left hl]
  · have : n = L.length := by omega
    subst this
    have hn' : L[L.length]? = none := List.getElem?_eq_none (Nat.le_refl _)
    rw [List.getElem?_append_right (Nat.le_refl _), Nat.sub_self, hn']
    cases r with
    | nil => simp
    | cons d t => simp; exact h d rfl
theorem end_ext {r : List UInt8} (hr : sepR r) (L : List UInt8) (n : Nat) (hn : n ≤ L.length) : numEnd (L ++ r) n = numEnd L n := by
  unfold numEnd
  by_cases hl : n < L.length
  · rw [List.getElem?_append_left hl]
  · have : n = L.length := by omega
    subst this
    have hn' : L[L.length]? = none := List.getElem?_eq_none (Nat.le_refl _)
    rw [List.getElem?_append_right (Nat.le_refl _), Nat.sub_self, hn']
    cases r with
    | nil => rfl
    | cons d t =>
      obtain ⟨_, _, f3, _, _, _, _, f8⟩ := sep_at hr (d := d) rfl
      simp [f3, f8]
theorem numF_ext {r : List UInt8} (hr : sepR r) (L : List UInt8) : numF (L ++ r) = numF L := by
  have g46 : ∀ n, n ≤ L.length → (((L ++ r)[n]? = some 46) ↔ (L[n]? = some 46)) := fun n hn => get_ext L n hn 46 (fun d h e => (sep_at hr h).2.2.2.1 (by rw [e]; rfl))
  have g101 : ∀ n, n ≤ L.length → (((L ++ r)[n]? = some 101) ↔ (L[n]? = some 101)) := fun n hn => get_ext L n hn 101 (fun d h e => (sep_at hr h).2.2.2.2.1 (by rw [e]; rfl))
  have g45 : ∀ n, n ≤ L.length → (((L ++ r)[n]? = some 45) ↔ (L[n]? = some 45)) := fun n hn => get_ext L n hn 45 (fun d h e => (sep_at hr h).2.2.2.2.2.1 (by rw [e]; rfl))
  have d0 : dl (L ++ r) = dl L := by have := dl_ext hr L 0 (by omega); simpa using this
  have l0 := dl_le L
  unfold numF
  rw [d0]
  by_cases h2 : L[dl L]? = some 46
  rotate_left
  · rw [if_neg h2, if_neg (fun e => h2 ((g46 _ l0).1 e)), end_ext hr L _ l0]
  have hlt := at_lt h2
  rw [if_pos h2, if_pos ((g46 _ l0).2 h2), dl_ext hr L (dl L + 1) (by omega)]
  have l1 := dl_drop_le L (dl L + 1) (by omega)
  rw [show dl L + 1 + dl (L.drop (dl L + 1)) = dl L + (1 + dl (L.drop (dl L + 1))) by omega] at l1
  by_cases h3 : dl (L.drop (dl L + 1)) = 0
  · rw [if_pos h3, if_pos h3]
  rw [if_neg h3, if_neg h3]
  generalize dl L + (1 + dl (L.drop (dl L + 1))) = m at l1 ⊢
  by_cases h5 : L[m]? = some 101
  rotate_left
  · rw [if_neg h5, if_neg (fun e => h5 ((g101 _ l1).1 e)), end_ext hr L _ l1]
  have hlt5 := at_lt h5
  rw [if_pos h5, if_pos ((g101 _ l1).2 h5)]
  by_cases h7 : L[m + 1]? = some 45
  · have hlt7 := at_lt h7
    rw [if_pos h7, if_pos ((g45 _ (by omega)).2 h7), dl_ext hr L (m + 1 + 1) (by omega)]
    have l3 := dl_drop_le L (m + 1 + 1) (by omega)
    rw [end_ext hr L _ l3]
  · rw [if_neg h7, if_neg (fun e => h7 ((g45 _ (by omega)).1 e)), dl_ext hr L (m + 1) (by omega)]
    have l3 := dl_drop_le L (m + 1) (by omega)
    rw [end_ext hr L _ l3]
theorem byte_of (c : UInt8) : UInt8.ofNat ((c.toNat : Int)).toNat = c := by simp
theorem hex_facts : ∀ k : Fin 16, hexV (UInt8.ofNat (bt hexT ((k.val : Nat) : Int)).toNat).toNat = some k.val := by decide +kernel
theorem escP_two (h1 h2 : UInt8) (t : List UInt8) (a b : Nat) (ha : hexV h1.toNat = some a) (hb : hexV h2.toNat = some b) : escP (120 :: h1 :: h2 :: t) = ((16 * a + b : Int), 3, true) := by
  simp [escP, ha, hb]
theorem qF_quote : ∀ (T r : List UInt8) (out : List Int) (i : Nat), qF (byL (quoteB T) ++ 34 :: r) out i = (out ++ T.map (fun c => (c.toNat : Int)), i + (quoteB T).length + 1, true)
  | [], r, out, i => by
    rw [show byL (quoteB []) ++ 34 :: r = 34 :: r from rfl, qF_end rfl]
    simp [quoteB]
  | c :: t, r, out, i => by
    have ih := qF_quote t r
    have hq : quoteB (c :: t) = escQ c.toNat ++ quoteB t := rfl
    rw [hq, byL_append, List.append_assoc, List.length_append]
    by_cases hp : c.toNat = 34 ∨ c.toNat = 92
    · have he : escQ c.toNat = [92, (c.toNat : Int)] := by unfold escQ; rw [if_pos hp]
      rw [he, show byL [92, (c.toNat : Int)] = [92, c] by simp [byL]]
      rw [List.cons_append, List.cons_append, List.nil_append, qF_esc rfl]
      have e1 : escP (c :: (byL (quoteB t) ++ 34 :: r)) = ((c.toNat : Int), 1, true) := by simp only [escP]; rw [if_pos hp]
      unfold escK
      rw [e1]
      simp only [if_true]
      rw [show (1 : Int).toNat = 1 from rfl, List.drop_succ_cons, List.drop_zero, ih]
      simp; omega
    by_cases h10 : c.toNat = 10
    · have he : escQ c.toNat = [92, 110] := by unfold escQ; rw [if_neg hp, if_pos h10]
      rw [he, show byL [92, 110] = [92, 110] from rfl]
      rw [List.cons_append, List.cons_append, List.nil_append, qF_esc rfl]
      have e1 : escP (110 :: (byL (quoteB t) ++ 34 :: r)) = (10, 1, true) := by simp [escP]
      unfold escK
      rw [e1]
      simp only [if_true]
      rw [show (1 : Int).toNat = 1 from rfl, List.drop_succ_cons, List.drop_zero, ih]
      simp [h10]; omega
    by_cases hr : 32 ≤ c.toNat ∧ c.toNat ≤ 126
    · have he : escQ c.toNat = [(c.toNat : Int)] := by unfold escQ; rw [if_neg hp, if_neg h10, if_pos hr]
      rw [he, show byL [(c.toNat : Int)] = [c] by simp [byL]]
      rw [List.cons_append, List.nil_append, qF_plain (fun e => hp (Or.inl e)) (by omega) (fun e => hp (Or.inr e)), ih]
      simp; omega
    · have he : escQ c.toNat = [92, 120, bt hexT ((c.toNat / 16 : Nat) : Int), bt hexT ((c.toNat % 16 : Nat) : Int)] := by unfold escQ; rw [if_neg hp, if_neg h10, if_neg hr]
      have hc := c.toNat_lt
      have k1 := hex_facts ⟨c.toNat / 16, by omega⟩
      have k2 := hex_facts ⟨c.toNat % 16, by omega⟩
      rw [he, show byL [92, 120, bt hexT ((c.toNat / 16 : Nat) : Int), bt hexT ((c.toNat % 16 : Nat) : Int)] = [92, 120, UInt8.ofNat (bt hexT ((c.toNat / 16 : Nat) : Int)).toNat, UInt8.ofNat (bt hexT ((c.toNat % 16 : Nat) : Int)).toNat] from rfl]
      rw [List.cons_append, List.cons_append, List.cons_append, List.cons_append, List.nil_append, qF_esc rfl]
      unfold escK
      rw [escP_two _ _ _ _ _ k1 k2]
      simp only [if_true]
      rw [show (3 : Int).toNat = 3 from rfl, List.drop_succ_cons, List.drop_succ_cons, List.drop_succ_cons, List.drop_zero, ih]
      simp only [List.length_cons, List.length_nil, List.map_cons, Prod.mk.injEq, and_true]
      refine ⟨?_, by omega⟩
      rw [List.append_assoc]
      congr 1
      rw [List.cons_append, List.nil_append]
      congr 1
      omega
theorem bytes_ext {a b : ByteArray} (h : a.data.toList = b.data.toList) : a = b := by
  cases a with
  | mk a =>
    cases b with
    | mk b => simp at h; subst h; rfl
structure PieceP (x : S37) (r : List UInt8) (c : UInt8) (T : List UInt8) : Prop where
  eq : byL (tokB x) = c :: T
  blank : blankN c.toNat = false
  rem : ¬ (c.toNat = 47 ∧ (T ++ r).head? = some 47)
  nx : nxm (c :: (T ++ r)) = (T.length + 1, true)
  tok : ∀ t : ByteArray, t.data.toList = c :: (T ++ r) → tokF t (c :: (T ++ r)) = (x.f0, x.f1)
theorem take_piece (t : ByteArray) (c : UInt8) (T r : List UInt8) (s : ByteArray) (hs : s.data.toList = c :: T) (ht : t.data.toList = c :: (T ++ r)) : t.extract 0 (T.length + 1) = s := by
  apply bytes_ext
  rw [extract_take, ht, hs]
  simp
theorem piece_scan (x : S37) (b : Bool) (hm : mayF x.f0 x.f1 b = true) (h7 : x.f0 ≠ 7) (r : List UInt8) (hr : sepR r) (h47 : byL (tokB x) = [47] → r.head? ≠ some 47) : ∃ c T, PieceP x r c T := by
  by_cases h5 : x.f0 = 5
  · refine ⟨34, byL (quoteB x.f1.data.toList) ++ [34], ?_, by decide, fun h => absurd h.1 (by decide), ?_, ?_⟩
    · rw [tokB_5 h5]
      unfold quoteF
      rw [show (34 :: (quoteB x.f1.data.toList ++ [34])) = [34] ++ (quoteB x.f1.data.toList ++ [34]) from rfl, byL_append, byL_append]
      rfl
    · have hq := qF_quote x.f1.data.toList r [] 0
      rw [List.append_assoc, List.cons_append, List.nil_append, nxm_cons, if_neg (by decide), if_neg (by decide), if_pos (by decide), hq]
      simp [byL_len]; omega
    · intro t ht
      have hq := qF_quote x.f1.data.toList r [] 0
      rw [List.append_assoc, List.cons_append, List.nil_append, tokF_cons, if_neg (by decide), if_neg (by decide), if_pos (by decide), hq, h5]
      congr 1
      apply bytes_ext
      rw [strOfNums_data, List.nil_append, List.map_map]
      conv => rhs; rw [← List.map_id x.f1.data.toList]
      apply List.map_congr_left
      intro d _
      simp
  have hB : byL (tokB x) = x.f1.data.toList := by rw [tokB_n h5, byL_bytes]
  rw [hB] at h47
  by_cases hone : x.f0 = 1 ∨ x.f0 = 2 ∨ x.f0 = 6
  · rw [mayF_one hone] at hm
    cases hL : x.f1.data.toList with
    | nil => rw [hL] at hm; simp [oneK] at hm
    | cons c T =>
      rw [hL] at hm h47 hB
      rw [oneK_cons] at hm
      simp only [Bool.and_eq_true, decide_eq_true_eq, Bool.not_eq_true', decide_eq_false_iff_not, List.length_cons] at hm
      obtain ⟨hlen, ⟨hbl, hrm⟩, hok, hn, hk⟩ := hm
      have hrem : ¬ (c.toNat = 47 ∧ (T ++ r).head? = some 47) := by
        intro h
        cases T with
        | nil =>
          have : c = 47 := UInt8.toNat_inj.mp h.1
          exact h47 (by rw [this]) (by simpa using h.2)
        | cons d t => exact hrm ⟨h.1, by simpa using h.2⟩
      by_cases hs : smallN c.toNat = true
      · have e1 : rl (c :: (T ++ r)) = rl (c :: T) := by have := rl_ext hr (c :: T); simpa using this
        rw [nxm_cons, if_pos hs] at hok hn
        have h33 : ¬ 33 ≤ rl (c :: T) := fun h => by rw [if_pos h] at hok; cases hok
        rw [if_neg h33] at hn
        simp only at hn
        have hnx : nxm (c :: (T ++ r)) = (T.length + 1, true) := by rw [nxm_cons, if_pos hs, e1, if_neg h33, hn]
        refine ⟨c, T, hB, hbl, hrem, hnx, ?_⟩
        intro t ht
        rw [tokF_cons, if_pos hs, hnx, e1, hn]
        simp only
        rw [take_piece t c T r x.f1 hL ht]
        congr 1
        rw [kindF_cons, if_pos hs, hn] at hk
        rw [← hk]
        rw [show (c :: (T ++ r)).take (T.length + 1) = c :: T by simp, show (c :: T).take (T.length + 1) = c :: T by simp]
      rw [kindF_cons, if_neg hs] at hk
      by_cases hd : digB c = true
      · rw [if_pos hd] at hk
        have := numF_kind (c :: T)
        omega
      rw [if_neg hd] at hk
      by_cases h34 : c.toNat = 34
      · rw [if_pos h34] at hk; omega
      rw [if_neg h34] at hk
      have hmk : mkF (c :: (T ++ r)) = mkF (c :: T) := by
        rw [mkF_cons, mkF_cons]
        cases T with
        | nil =>
          have : r.head? ≠ some 61 := fun e => (sep_at hr e).2.2.2.2.2.2.1 rfl
          simp [this]
        | cons d t => simp
      have hnx : nxm (c :: (T ++ r)) = (T.length + 1, true) := by
        rw [nxm_cons, if_neg hs, if_neg hd, if_neg h34, hmk]
        rw [nxm_cons, if_neg hs, if_neg hd, if_neg h34] at hok hn
        have h1 : ¬ mkF (c :: T) < 1 := fun h => by rw [if_pos h] at hok; cases hok
        rw [if_neg h1] at hn ⊢
        simp only at hn
        rw [hn]
      refine ⟨c, T, hB, hbl, hrem, hnx, ?_⟩
      intro t ht
      rw [tokF_cons, if_neg hs, if_neg hd, if_neg h34, hnx]
      simp only
      rw [take_piece t c T r x.f1 hL ht, hk]
  have hnum : ∃ k : Nat, (k = 3 ∨ k = 4) ∧ x.f0 = (k : Int) ∧ numTok x.f1.data.toList k = true := by
    by_cases h3 : x.f0 = 3
    · rw [mayF_3 h3] at hm
      exact ⟨3, Or.inl rfl, h3, by rw [intTok]; exact hm⟩
    by_cases h4 : x.f0 = 4
    · rw [mayF_4 h4] at hm
      exact ⟨4, Or.inr rfl, h4, by rw [realTok]; exact hm⟩
    · rw [mayF_x hone h3 h4 h5] at hm
      simp [h7] at hm
  obtain ⟨k, _, hk, hm⟩ := hnum
  unfold numTok at hm
  simp only [Bool.and_eq_true, decide_eq_true_eq] at hm
  obtain ⟨hd0, hok, hn, hkk⟩ := hm
  cases hL : x.f1.data.toList with
  | nil => rw [hL] at hd0; simp [dl] at hd0
  | cons c T =>
    rw [hL] at hd0 hok hn hkk hB
    have hd : digB c = true := by
      cases h : digB c with
      | true => rfl
      | false => exact absurd ((dl_zero c T).2 h) hd0
    have hdn : digitN c.toNat = true := hd
    have hs : ¬ smallN c.toNat = true := by
      unfold smallN; unfold digitN at hdn
      simp at hdn ⊢; omega
    have hbl : blankN c.toNat = false := by
      unfold blankN; unfold digitN at hdn
      simp at hdn ⊢; omega
    have h47' : c.toNat ≠ 47 := by
      unfold digitN at hdn
      simp at hdn; omega
    have hnx : nxm (c :: (T ++ r)) = (T.length + 1, true) := by
      have := numF_ext hr (c :: T)
      rw [List.cons_append] at this
      rw [nxm_cons, if_neg hs, if_pos hd, this, hok, hn]
      rfl
    refine ⟨c, T, hB, hbl, fun h => h47' h.1, hnx, ?_⟩
    intro t ht
    have := numF_ext hr (c :: T)
    rw [List.cons_append] at this
    rw [tokF_cons, if_neg hs, if_pos hd, hnx, this, hkk]
    simp only
    rw [take_piece t c T r x.f1 hL ht, hk]
theorem may_end {x : S37} {t : List S37} (hm : mayAll (x :: t) = true) (h7 : x.f0 = 7) : t = [] := by
  unfold mayAll at hm
  simp only [Bool.and_eq_true] at hm
  obtain ⟨h1, _⟩ := hm
  rw [mayF_x (by omega) (by omega) (by omega) (by omega)] at h1
  simp only [Bool.and_eq_true, beq_iff_eq] at h1
  exact List.length_eq_zero_iff.1 h1.2.2
theorem may_tail {x : S37} {t : List S37} (hm : mayAll (x :: t) = true) : mayAll t = true := by
  unfold mayAll at hm
  simp only [Bool.and_eq_true] at hm
  exact hm.2
theorem may_head {x : S37} {t : List S37} (hm : mayAll (x :: t) = true) : mayF x.f0 x.f1 (t.length == 0) = true := by
  unfold mayAll at hm
  simp only [Bool.and_eq_true] at hm
  exact hm.1
theorem addAll_cons (i : Nat) (x : S37) (t : List S37) : addAll i (x :: t) = addT i x ++ addAll (i + 1) t := rfl
theorem blk_stop (c : UInt8) (T : List UInt8) (a l h : Nat) (h4 : blankN c.toNat = false) (h5 : ¬ (c.toNat = 47 ∧ T.head? = some 47)) : blk false (c :: T) a l h = (a, l, h) := by
  have h10 : ¬ c.toNat = 10 := fun e => by simp [blankN, e] at h4
  have hib : isBlank c = false := by rw [blank_isBlank c h10]; exact h4
  unfold blk
  rw [if_neg h10, if_neg (by simp), if_neg (by simp [hib]), if_neg h5]
theorem tok_len (x : S37) (r : List UInt8) (c : UInt8) (T : List UInt8) (h : PieceP x r c T) : (tokB x).length = T.length + 1 := by
  have := congrArg List.length h.eq
  rw [byL_len] at this
  simpa using this
def ownF : List S37 → List S37
  | [] => []
  | x :: t => if x.f0 = 7 then [] else x :: ownF t
theorem own_split : ∀ l : List S37, mayAll l = true → (∀ x ∈ ownF l, x.f0 ≠ 7) ∧ (l = ownF l ∨ ∃ e, l = ownF l ++ [e] ∧ e.f0 = 7)
  | [], _ => ⟨by simp [ownF], Or.inl rfl⟩
  | x :: t, hm => by
    by_cases h7 : x.f0 = 7
    · have ht := may_end hm h7
      subst ht
      have e : ownF [x] = [] := by unfold ownF; rw [if_pos h7]
      rw [e]
      exact ⟨by simp, Or.inr ⟨x, rfl, h7⟩⟩
    · have e : ownF (x :: t) = x :: ownF t := by
        conv => lhs; unfold ownF
        rw [if_neg h7]
      rw [e]
      obtain ⟨a, b⟩ := own_split t (may_tail hm)
      refine ⟨?_, ?_⟩
      · intro y hy
        rcases List.mem_cons.1 hy with rfl | hy
        · exact h7
        · exact a y hy
      · rcases b with b | ⟨z, b, hz⟩
        · left; rw [← b]
        · right; exact ⟨z, by rw [List.cons_append, ← b], hz⟩
theorem wrap_pred {n : Nat} (h0 : 0 < n) (h : n ≤ 4611686018427387904) : wrap64 ((n : Int) - 1) = ((n - 1 : Nat) : Int) := by rw [w64 (by omega) (by omega)]; omega
theorem ahead_app (O : List S37) (e : S37) (he : e.f0 = 7) (hl : O.length ≤ 4294967296) : latchkeylaw05_ahead.f (O ++ [e]) = some O := by
  unfold latchkeylaw05_ahead.f
  have hlen : (O ++ [e]).length = O.length + 1 := by simp
  rw [hlen, wrap_pred (by omega) (by omega), Nat.add_sub_cancel]
  have hd : (O ++ [e]).drop O.length = [e] := by simp
  rw [if_pos (by omega), if_pos (by omega), if_pos (by omega), rd_at _ O.length e [] hd, if_pos he, if_pos (by omega)]
  simp
theorem ahead_own (O : List S37) (h : ∀ x ∈ O, x.f0 ≠ 7) (hl : O.length ≤ 4294967296) : latchkeylaw05_ahead.f O = some O := by
  unfold latchkeylaw05_ahead.f
  by_cases h0 : 0 < O.length
  · rw [if_pos (by omega), wrap_pred h0 (by omega), if_pos (by omega), if_pos (by omega)]
    obtain ⟨x, t, e1, e2, e3⟩ := ldrop_cons (l := O) (i := O.length - 1) (by omega)
    rw [rd_at O _ x t e1, if_neg (h x e3)]
  · rw [if_neg (by omega)]
theorem ahead_may (l : List S37) (hm : mayAll l = true) (hl : l.length ≤ 4294967296) : latchkeylaw05_ahead.f l = some (ownF l) := by
  obtain ⟨a, b⟩ := own_split l hm
  rcases b with b | ⟨e, b, he⟩
  · have := ahead_own (ownF l) a (by rw [← b]; exact hl)
    rw [← b] at this ⊢
    exact this
  · have hlen : l.length = (ownF l).length + 1 := by
      have := congrArg List.length b
      simpa using this
    have := ahead_app (ownF l) e he (by omega)
    rwa [← b] at this
theorem copy_ev (l : List S37) (hw : wt l ≤ 2147483647) : Ev (fun k => latchkeyref00_CopyTokens.f k l) l := by
  have hlen := wt_len l
  unfold latchkeyref00_CopyTokens.f
  have k0 : ∀ (N i : Nat), l.length - i ≤ N → i ≤ l.length → Ev (fun k => latchkeyref00_CopyTokens.l0 k l (l.take i) (i : Int)) l := by
    intro N
    have fin : ∀ i : Nat, ¬ i < l.length → Ev (fun k => latchkeyref00_CopyTokens.l0 k l (l.take i) (i : Int)) l := by
      intro i h
      rw [List.take_of_length_le (by omega)]
      refine Ev.succ ?_
      unfold latchkeyref00_CopyTokens.l0
      exact Ev.neg (by omega) (Ev.pure _)
    induction N with
    | zero => intro i h1 h2; exact fin i (by omega)
    | succ N ih =>
      intro i h1 h2
      by_cases h : i < l.length
      rotate_left
      · exact fin i h
      obtain ⟨x, t, e1, e2, e3⟩ := ldrop_cons h
      have hn := ih (i + 1) (by omega) (by omega)
      rw [take_add1 l i x _ e1] at hn
      refine Ev.succ ?_
      unfold latchkeyref00_CopyTokens.l0
      rw [rd_at l i x t e1, tk_nat (by omega)]
      refine Ev.pos (by omega) (Ev.pos (by omega) (Ev.pos ?_ hn))
      rw [List.length_take]; omega
  have := k0 l.length 0 (by omega) (by omega)
  rw [List.take_zero] at this
  exact this
def kt (x : S37) : Int × ByteArray := (x.f0, x.f1)
theorem alike_ev (A B : List S37) (h : A.map kt = B.map kt) (hl : A.length ≤ 4294967296) : Ev (fun k => latchkeylaw05_alike.l0 k A B 0) true := by
  have hlen : A.length = B.length := by have := congrArg List.length h; simpa using this
  have key : ∀ (N i : Nat), A.length - i ≤ N → i ≤ A.length → Ev (fun k => latchkeylaw05_alike.l0 k A B (i : Int)) true := by
    intro N
    have fin : ∀ i : Nat, ¬ i < A.length → Ev (fun k => latchkeylaw05_alike.l0 k A B (i : Int)) true := by
      intro i h
      refine Ev.succ ?_
      unfold latchkeylaw05_alike.l0
      exact Ev.neg (by omega) (Ev.pure _)
    induction N with
    | zero => intro i h1 h2; exact fin i (by omega)
    | succ N ih =>
      intro i h1 h2
      by_cases hi : i < A.length
      rotate_left
      · exact fin i hi
      obtain ⟨x, t, e1, e2, e3⟩ := ldrop_cons hi
      obtain ⟨y, u, f1, f2, f3⟩ := ldrop_cons (l := B) (i := i) (by omega)
      have hxy : kt x = kt y := by
        have hd := congrArg (List.drop i) h
        rw [← List.map_drop, ← List.map_drop, e1, f1] at hd
        simp only [List.map_cons, List.cons.injEq] at hd
        exact hd.1
      unfold kt at hxy
      injection hxy with hx1 hx2
      have hn := ih (i + 1) (by omega) (by omega)
      refine Ev.succ ?_
      unfold latchkeylaw05_alike.l0
      rw [rd_at A i x t e1, rd_at B i y u f1, tk_nat (by omega)]
      exact Ev.pos (by omega) (Ev.pos (by omega) (Ev.pos (by omega) (Ev.pos hx1 (Ev.pos (by rw [hx2]) hn))))
  exact key A.length 0 (by omega) (by omega)
theorem addAll_one (x : S37) (h7 : x.f0 ≠ 7) : addAll 0 [x] = tokB x := by
  rw [addAll_cons]
  unfold addT
  rw [if_neg h7, if_neg (by omega)]
  simp [addAll]
theorem mayF_last {x : S37} {b c : Bool} (h7 : x.f0 ≠ 7) (h : mayF x.f0 x.f1 b = true) : mayF x.f0 x.f1 c = true := by
  unfold mayF at h ⊢
  simpa [h7] using h
theorem one_print (x : S37) (b : Bool) (h7 : x.f0 ≠ 7) (hm : mayF x.f0 x.f1 b = true) (hl : (tokB x).length ≤ 65536) (hs : 8 + x.f1.size ≤ 2147483647) : Ev (fun k => tokens_Print.f k [x]) (strOfNums (tokB x), 0) := by
  have := tokprint_ev [x] (by simp [wt]; omega)
  refine this.val ?_
  unfold printV
  rw [if_pos (by unfold mayAll; simp [mayAll, mayF_last (c := true) h7 hm])]
  unfold printTail
  rw [addAll_one x h7, List.nil_append, if_neg (by omega)]
theorem pieces_ev (O : List S37) (hO : ∀ x ∈ O, x.f0 ≠ 7 ∧ (∃ b, mayF x.f0 x.f1 b = true) ∧ (tokB x).length ≤ 65536 ∧ 8 + x.f1.size ≤ 2147483647) (hl : O.length ≤ 2147483647) : Ev (fun k => latchkeylaw05_pieces.f k O) (O.map (fun x => strOfNums (tokB x)), true) := by
  unfold latchkeylaw05_pieces.f
  have k0 : ∀ (N i : Nat), O.length - i ≤ N → i ≤ O.length → Ev (fun k => latchkeylaw05_pieces.l0 k O ((O.take i).map (fun x => strOfNums (tokB x))) (i : Int)) (O.map (fun x => strOfNums (tokB x)), true) := by
    intro N
    have fin : ∀ i : Nat, ¬ i < O.length → Ev (fun k => latchkeylaw05_pieces.l0 k O ((O.take i).map (fun x => strOfNums (tokB x))) (i : Int)) (O.map (fun x => strOfNums (tokB x)), true) := by
      intro i h
      rw [List.take_of_length_le (by omega)]
      refine Ev.succ ?_
      unfold latchkeylaw05_pieces.l0
      exact Ev.neg (by omega) (Ev.pure _)
    induction N with
    | zero => intro i h1 h2; exact fin i (by omega)
    | succ N ih =>
      intro i h1 h2
      by_cases h : i < O.length
      rotate_left
      · exact fin i h
      obtain ⟨x, t, e1, e2, e3⟩ := ldrop_cons h
      obtain ⟨g1, ⟨b, g2⟩, g3, g4⟩ := hO x e3
      have hn := ih (i + 1) (by omega) (by omega)
      rw [take_add1 O i x _ e1, List.map_append] at hn
      refine Ev.succ ?_
      unfold latchkeylaw05_pieces.l0
      rw [rd_at O i x t e1, tk_nat (by omega)]
      refine Ev.pos (by omega) (Ev.pos (by omega) (Ev.bind (one_print x b g1 g2 g3 g4) (Ev.pos rfl (Ev.pos ?_ hn))))
      rw [List.length_map, List.length_take]; omega
  have := k0 O.length 0 (by omega) (by omega)
  exact this
theorem rdOf_at (l : List ByteArray) (i : Nat) (x : ByteArray) (t : List ByteArray) (h : l.drop i = x :: t) : rdOf ByteArray.empty l (i : Int) = x := by
  unfold rdOf
  rw [show ((i : Int)).toNat = i by omega]
  have : l[i]? = some x := by
    have := congrArg (·[0]?) h
    simpa using this
  simp [List.getD, this]
def pb (x : S37) : ByteArray := strOfNums (tokB x)
theorem pb_size (x : S37) : (pb x).size = (tokB x).length := strOfNums_size _
theorem pb_data (x : S37) : (pb x).data.toList = byL (tokB x) := strOfNums_data _
theorem scanV_ok {s : ByteArray} (hs : s.size ≤ 65536) (h : stop0 s.data.toList = none) : scanV s = (toksF s (s.size + 1) 0 1 0, 0, 0, 0) := by
  unfold scanV; rw [if_neg (by omega), h]
theorem wt_mem8 : ∀ (l : List S37) (x : S37), x ∈ l → 8 + x.f1.size ≤ wt l
  | y :: t, x, h => by
    unfold wt
    rcases List.mem_cons.1 h with e | e
    · subst e; omega
    · have := wt_mem8 t x e; omega
theorem own_mem : ∀ (l : List S37) (i : Nat) (x : S37), mayAll l = true → x ∈ ownF l → x ∈ l ∧ (∃ b, mayF x.f0 x.f1 b = true) ∧ (tokB x).length ≤ (addAll i l).length
  | [], _, _, _, h => by simp [ownF] at h
  | y :: t, i, x, hm, h => by
    by_cases h7 : y.f0 = 7
    · have e : ownF (y :: t) = [] := by
        conv => lhs; unfold ownF
        rw [if_pos h7]
      rw [e] at h; cases h
    · have e : ownF (y :: t) = y :: ownF t := by
        conv => lhs; unfold ownF
        rw [if_neg h7]
      rw [e] at h
      rw [addAll_cons, List.length_append]
      rcases List.mem_cons.1 h with e | e
      · subst e
        refine ⟨List.mem_cons_self .., ⟨_, may_head hm⟩, ?_⟩
        have : (tokB x).length ≤ (addT i x).length := by
          unfold addT
          rw [if_neg h7, List.length_append]; omega
        omega
      · obtain ⟨a, b, c⟩ := own_mem t (i + 1) x (may_tail hm) e
        exact ⟨List.mem_cons_of_mem _ a, b, by omega⟩
theorem own_len (l : List S37) : (ownF l).length ≤ l.length := by
  induction l with
  | nil => simp [ownF]
  | cons x t ih =>
    unfold ownF
    split
    · simp
    · simp only [List.length_cons]; omega
end Go.Proofs.YteedjhoffjkhmaaDoor.Q
