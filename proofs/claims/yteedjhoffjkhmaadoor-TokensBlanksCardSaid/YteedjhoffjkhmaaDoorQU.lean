import Derived.Test.YteedjhoffjkhmaaDoorQT
import Derived.Test.YteedjhoffjkhmaaDoorQSw
import Derived.Test.YteedjhoffjkhmaaDoorPWc
namespace Go.Proofs.YteedjhoffjkhmaaDoor.Q
open Go.RowKit Go.Proofs.YteedjhoffjkhmaaDoor.PT Go.Proofs.YteedjhoffjkhmaaDoorW.PrintWords Go.Proofs.YteedjhoffjkhmaaDoorW.PrintLast Go.Proofs.YteedjhoffjkhmaaDoorW.PrintMore
set_option linter.unusedVariables false
set_option linter.unusedSimpArgs false
def GapP (F : List UInt8) : Prop := ∀ (X : List UInt8) (a l h : Nat), ∃ l' h', blk false (F ++ X) a l h = blk false X (a + F.length) l' h'
theorem gap_nil : GapP [] := fun X a l h => ⟨l, h, by simp⟩
theorem gap_app {A B : List UInt8} (hA : GapP A) (hB : GapP B) : GapP (A ++ B) := by
  intro X a l h
  obtain ⟨l1, h1, e1⟩ := hA (B ++ X) a l h
  obtain ⟨l2, h2, e2⟩ := hB X (a + A.length) l1 h1
  exact ⟨l2, h2, by rw [List.append_assoc, e1, e2, List.length_append, Nat.add_assoc]⟩
theorem gap_blank (c : UInt8) (hc : blankN c.toNat = true) : GapP [c] := by
  intro X a l h
  rw [List.cons_append, List.nil_append]
  by_cases h10 : c.toNat = 10
  · refine ⟨l + 1, a + 1, ?_⟩
    conv => lhs; unfold blk
    rw [if_pos h10]; rfl
  · refine ⟨l, h, ?_⟩
    conv => lhs; unfold blk
    rw [if_neg h10, if_neg (by simp), if_pos (by rw [blank_isBlank c h10]; exact hc)]; rfl
theorem remark_end : ∀ (M X : List UInt8) (a l h : Nat), (∀ d ∈ M, d.toNat ≠ 10) → ∃ l' h', blk true (M ++ 10 :: X) a l h = blk false X (a + M.length + 1) l' h'
  | [], X, a, l, h, _ => ⟨l + 1, a + 1, by
      rw [List.nil_append]
      conv => lhs; unfold blk
      rw [if_pos (by decide)]; rfl⟩
  | d :: t, X, a, l, h, hd => by
    obtain ⟨l', h', e⟩ := remark_end t X (a + 1) l h (fun x hx => hd x (List.mem_cons_of_mem _ hx))
    refine ⟨l', h', ?_⟩
    rw [List.cons_append]
    conv => lhs; unfold blk
    rw [if_neg (hd d (List.mem_cons_self ..)), if_pos rfl, e, List.length_cons]
    congr 1; omega
theorem gap_remark (M : List UInt8) (hM : ∀ d ∈ M, d.toNat ≠ 10) : GapP (47 :: 47 :: (M ++ [10])) := by
  intro X a l h
  obtain ⟨l', h', e⟩ := remark_end (47 :: M) X (a + 1) l h (fun x hx => by
    rcases List.mem_cons.1 hx with rfl | hx
    · decide
    · exact hM x hx)
  refine ⟨l', h', ?_⟩
  rw [List.cons_append, List.cons_append, List.append_assoc, List.cons_append, List.nil_append]
  conv => lhs; unfold blk
  rw [if_neg (by decide), if_neg (by simp), if_neg (by decide), if_pos ⟨by decide, rfl⟩]
  rw [List.cons_append] at e
  rw [e]
  simp only [List.length_cons, List.length_append, List.length_nil]
  congr 1; omega
structure GapOk (G : Nat → List UInt8) (x : Nat → List UInt8) : Prop where
  gap : ∀ i, GapP (G i)
  head : ∀ i, 0 < i → ∃ d r, G i = d :: r ∧ (blankN d.toNat = true ∨ d.toNat = 47) ∧ (x (i - 1) = [47] → d.toNat ≠ 47)
def restG (G : Nat → List UInt8) : Nat → List S37 → List UInt8
  | i, [] => G i
  | i, x :: t => G i ++ (byL (tokB x) ++ restG G (i + 1) t)
def rowsG (G : Nat → List UInt8) : Nat → List UInt8 → List S37 → List S37
  | i, P, [] => [⟨7, ⟨#[]⟩, ((pos (P ++ G i) 1 1).1 : Int), ((pos (P ++ G i) 1 1).2 : Int)⟩]
  | i, P, x :: t => ⟨x.f0, x.f1, ((pos (P ++ G i) 1 1).1 : Int), ((pos (P ++ G i) 1 1).2 : Int)⟩ :: rowsG G (i + 1) (P ++ G i ++ byL (tokB x)) t
theorem drop_len {A B : List UInt8} : (A ++ B).drop A.length = B := List.drop_left
theorem scan_gaps (s : ByteArray) (hs : s.size ≤ 65536) (G : Nat → List UInt8) (B : Nat → List UInt8) (hG : GapOk G B) : ∀ (L : List S37) (f i l h : Nat) (P : List UInt8),
    (∀ x ∈ L, x.f0 ≠ 7 ∧ ∃ b, mayF x.f0 x.f1 b = true) → (∀ j x, L[j]? = some x → B (i + j) = byL (tokB x)) → s.data.toList = P ++ restG G i L → h ≤ P.length → pos P 1 1 = (l, P.length - h + 1) → s.size < P.length + f →
    stop0 (s.data.toList.drop P.length) = none ∧ toksF s f P.length l h = rowsG G i P L := by
  intro L
  induction L with
  | nil =>
    intro f i l h P hL hB hd hh hp hf
    have hd' : s.data.toList.drop P.length = G i := by rw [hd, drop_len]; rfl
    obtain ⟨l', h', e⟩ := hG.gap i [] P.length l h
    rw [List.append_nil, show blk false [] (P.length + (G i).length) l' h' = (P.length + (G i).length, l', h') from rfl] at e
    obtain ⟨b1, b2, b3, b4, b5, b6⟩ := stop_blk (G i) false P.length l h 0 hh
    rw [e] at b1 b2 b3 b4 b5 b6
    simp only [Nat.add_sub_cancel_left] at b3 b4 b5
    rw [List.drop_length] at b4
    rw [List.take_length] at b5
    have hsz : s.size = P.length + (G i).length := by
      rw [← len_toList, hd, List.length_append]; rfl
    cases f with
    | zero => omega
    | succ f =>
      refine ⟨by rw [hd']; exact b4, ?_⟩
      unfold toksF rowsG
      rw [hd', e]
      simp only
      rw [if_pos hsz.symm]
      have hpp : pos (P ++ G i) 1 1 = (l', P.length + (G i).length - h' + 1) := by rw [pos_append, hp]; exact b5
      rw [hpp]
      simp only [List.cons.injEq, and_true, S37.mk.injEq, true_and]
      omega
  | cons x t ih =>
    intro f i l h P hL hB hd hh hp hf
    obtain ⟨h7, bb, hm⟩ := hL x (List.mem_cons_self ..)
    have hd' : s.data.toList.drop P.length = G i ++ (byL (tokB x) ++ restG G (i + 1) t) := by rw [hd, drop_len]; rfl
    have hrest : ∃ d r, restG G (i + 1) t = d :: r ∧ (blankN d.toNat = true ∨ d.toNat = 47) ∧ (byL (tokB x) = [47] → d.toNat ≠ 47) := by
      obtain ⟨d, r, e, hd1, hd2⟩ := hG.head (i + 1) (by omega)
      have hbx := hB 0 x rfl
      rw [Nat.add_sub_cancel] at hd2
      rw [Nat.add_zero] at hbx
      rw [hbx] at hd2
      cases t with
      | nil => exact ⟨d, r, e, hd1, hd2⟩
      | cons y u => exact ⟨d, r ++ (byL (tokB y) ++ restG G (i + 1 + 1) u), by rw [show restG G (i + 1) (y :: u) = G (i + 1) ++ (byL (tokB y) ++ restG G (i + 1 + 1) u) from rfl, e]; rfl, hd1, hd2⟩
    obtain ⟨d, r, hr1, hr2, hr3⟩ := hrest
    obtain ⟨c, T, Q⟩ := piece_scan x bb hm h7 (restG G (i + 1) t) (fun z hz => by rw [hr1] at hz; obtain rfl := Option.some.inj hz; exact hr2) (fun e1 e2 => by
      rw [hr1] at e2
      have := Option.some.inj e2
      exact hr3 e1 (by rw [this]; rfl))
    have hlen := tok_len x _ c T Q
    obtain ⟨l', h', e⟩ := hG.gap i (byL (tokB x) ++ restG G (i + 1) t) P.length l h
    rw [Q.eq, List.cons_append, blk_stop c _ _ _ _ Q.blank Q.rem] at e
    obtain ⟨b1, b2, b3, b4, b5, b6⟩ := stop_blk (G i ++ (c :: (T ++ restG G (i + 1) t))) false P.length l h 0 hh
    rw [e] at b1 b2 b3 b4 b5 b6
    simp only [Nat.add_sub_cancel_left] at b3 b4 b5
    rw [drop_len] at b4
    rw [List.take_left] at b5
    rw [Q.eq, List.cons_append] at hd'
    have hpp : pos (P ++ G i) 1 1 = (l', P.length + (G i).length - h' + 1) := by rw [pos_append, hp]; exact b5
    have hdp : s.data.toList.drop (P.length + (G i).length) = c :: (T ++ restG G (i + 1) t) := by rw [← List.drop_drop, hd', drop_len]
    have hz : s.size = P.length + (G i).length + (T.length + 1 + (restG G (i + 1) t).length) := by
      rw [← len_toList, hd, show restG G i (x :: t) = G i ++ (byL (tokB x) ++ restG G (i + 1) t) from rfl, Q.eq]
      simp only [List.length_append, List.length_cons]; omega
    cases f with
    | zero => omega
    | succ f =>
      have hP2 : (P ++ G i ++ byL (tokB x)).length = P.length + (G i).length + (T.length + 1) := by
        rw [Q.eq]; simp only [List.length_append, List.length_cons]
      obtain ⟨n1, _, _⟩ := nxm_len c (T ++ restG G (i + 1) t) Q.blank
      rw [Q.nx] at n1
      simp only at n1
      have hposB : pos (P ++ G i ++ byL (tokB x)) 1 1 = (l', P.length + (G i).length + (T.length + 1) - h' + 1) := by
        rw [pos_append, hpp, Q.eq]
        have ht : (c :: (T ++ restG G (i + 1) t)).take (T.length + 1) = c :: T := by simp
        rw [ht] at n1
        rw [pos_noNl _ _ _ n1, List.length_cons]
        simp only [Prod.mk.injEq, true_and]
        omega
      obtain ⟨i1, i2⟩ := ih f (i + 1) l' h' (P ++ G i ++ byL (tokB x)) (fun y hy => hL y (List.mem_cons_of_mem _ hy)) (fun j y hy => by
        have := hB (j + 1) y (by simpa using hy)
        rw [← this]; congr 1; omega) (by rw [hd, show restG G i (x :: t) = G i ++ (byL (tokB x) ++ restG G (i + 1) t) from rfl]; simp) (by rw [hP2]; omega) (by rw [hposB, hP2]) (by rw [hP2]; omega)
      rw [hP2] at i1 i2
      have hst : stop0 (c :: (T ++ restG G (i + 1) t)) = none := by
        rw [stop_next c _ Q.blank Q.rem, Q.nx]
        simp only [okStop, if_true]
        have : (c :: (T ++ restG G (i + 1) t)).drop (T.length + 1) = s.data.toList.drop (P.length + (G i).length + (T.length + 1)) := by
          conv => rhs; rw [← List.drop_drop, hdp]
        rw [this, i1]; rfl
      refine ⟨by rw [hd']; rw [show stop0 (G i ++ (c :: (T ++ restG G (i + 1) t))) = sh (G i).length (stop0 (c :: (T ++ restG G (i + 1) t))) from b4, hst]; rfl, ?_⟩
      unfold toksF rowsG
      rw [hd', e]
      simp only
      rw [if_neg (by omega)]
      have htk := Q.tok (s.extract (P.length + (G i).length) s.size) (by rw [tail_toList, hdp])
      have hd2 : s.data.toList.drop (P.length + (G i).length) = c :: (T ++ restG G (i + 1) t) := hdp
      rw [hd2, htk, Q.nx, i2, hpp]
      simp only [List.cons.injEq, and_true, S37.mk.injEq, true_and]
      omega
theorem onward_big (s : ByteArray) (hs : s.size ≤ 1000000000) (b : Nat) (hb : b ≤ s.size) : ∀ (N i l col : Nat), b - i ≤ N → i ≤ b → l ≤ 1000000000 + i → col ≤ 1000000000 + i →
    Ev (fun k => latchkeyref05_onward.l0 k s (b : Int) (l : Int) (col : Int) (i : Int)) (((pos ((s.data.toList.drop i).take (b - i)) l col).1 : Int), ((pos ((s.data.toList.drop i).take (b - i)) l col).2 : Int)) := by
  intro N
  induction N with
  | zero =>
    intro i l col hN hi hl hc
    refine Ev.succ ?_
    simp only [latchkeyref05_onward.l0]
    refine Ev.neg (by omega) (Ev.const ?_)
    rw [show b - i = 0 by omega, List.take_zero]; rfl
  | succ N ih =>
    intro i l col hN hi hl hc
    refine Ev.succ ?_
    simp only [latchkeyref05_onward.l0]
    by_cases h : i < b
    · obtain ⟨c, T, e1, e2, e3, e4⟩ := drop_cons (s := s) (i := i) (by omega)
      refine Ev.pos (by omega) (Ev.pos (by omega) (Ev.pos (by omega) ?_))
      rw [e4, e1, show b - i = (b - (i + 1)) + 1 by omega, List.take_succ_cons, tk_nat (i := i) (by omega), tk_nat (i := l) (by omega), tk_nat (i := col) (by omega), ← e2]
      unfold pos
      by_cases h10 : c.toNat = 10
      · simp only [if_pos h10]
        exact Ev.pos (by omega) (ih (i + 1) (l + 1) 1 (by omega) (by omega) (by omega) (by omega))
      · simp only [if_neg h10]
        exact Ev.neg (by omega) (ih (i + 1) l (col + 1) (by omega) (by omega) (by omega) (by omega))
    · refine Ev.neg (by omega) (Ev.const ?_)
      rw [show b - i = 0 by omega, List.take_zero]; rfl
theorem place_ev (s : ByteArray) (hs : s.size ≤ 1000000000) : Ev (fun k => latchkeyref05_Place.f k s (s.size : Int)) (((pos s.data.toList 1 1).1 : Int), ((pos s.data.toList 1 1).2 : Int)) := by
  unfold latchkeyref05_Place.f latchkeyref05_onward.f
  have ho := onward_big s hs s.size (Nat.le_refl _) s.size 0 1 1 (by omega) (by omega) (by omega) (by omega)
  rw [List.drop_zero, Nat.sub_zero, List.take_of_length_le (by rw [len_toList]; omega)] at ho
  exact Ev.bind (a := (((pos s.data.toList 1 1).1 : Int), ((pos s.data.toList 1 1).2 : Int))) ho (Ev.pure _)
def fillL : List ByteArray := [(⟨#[32]⟩ : ByteArray), (⟨#[10]⟩ : ByteArray), (⟨#[9]⟩ : ByteArray), (⟨#[13, 10]⟩ : ByteArray), (⟨#[32, 47, 47, 32, 120, 32, 34, 10]⟩ : ByteArray), (⟨#[47, 47, 10]⟩ : ByteArray), (⟨#[10, 10, 32, 32]⟩ : ByteArray), (⟨#[47, 47, 255, 0, 10, 9]⟩ : ByteArray)]
theorem fill_ok (k : Int) : ∃ j : Nat, j < 8 ∧ latchkeylaw05_filler.f k = some (rdOf ByteArray.empty fillL (j : Int)) := by
  have h1 : -8 < Int.tmod k 8 := by
    rcases Int.le_total 0 k with h | h
    · have := Int.tmod_nonneg 8 h; omega
    · have h2 := Int.tmod_nonneg 8 (a := -k) (by omega)
      have h3 := Int.tmod_lt_of_pos (-k) (b := 8) (by omega)
      rw [Int.neg_tmod] at h2 h3
      omega
  have h2 : Int.tmod k 8 < 8 := Int.tmod_lt_of_pos k (by omega)
  have hP : ∃ j : Nat, j < 8 ∧ latchkeykit_Pick.f k 8 = some (j : Int) := by
    unfold latchkeykit_Pick.f
    rw [if_neg (by omega), if_neg (by omega)]
    by_cases h : Int.tmod k 8 < 0
    · rw [if_pos h]
      refine ⟨(Int.tmod k 8 + 8).toNat, by omega, ?_⟩
      congr 1
      have := w64 (x := Int.tmod k 8 + 8) (by omega) (by omega)
      omega
    · rw [if_neg h]
      exact ⟨(Int.tmod k 8).toNat, by omega, by congr 1; omega⟩
  obtain ⟨j, hj, hp⟩ := hP
  refine ⟨j, hj, ?_⟩
  unfold latchkeylaw05_filler.f
  rw [Option.bind_some, hp, Option.bind_some, if_pos (by omega), if_pos (by simp; omega)]
  rfl
theorem fill_gap : ∀ j : Nat, j < 8 → GapP (rdOf ByteArray.empty fillL (j : Int)).data.toList ∧ (∃ d r, (rdOf ByteArray.empty fillL (j : Int)).data.toList = d :: r ∧ (blankN d.toNat = true ∨ d.toNat = 47)) ∧ (rdOf ByteArray.empty fillL (j : Int)).size ≤ 8 := by
  intro j hj
  have b : ∀ c : UInt8, blankN c.toNat = true → ∀ F, GapP F → GapP (c :: F) := fun c hc F hF => gap_app (gap_blank c hc) hF
  match j, hj with
  | 0, _ => exact ⟨b 32 (by decide) _ gap_nil, ⟨32, _, rfl, by decide⟩, by decide⟩
  | 1, _ => exact ⟨b 10 (by decide) _ gap_nil, ⟨10, _, rfl, by decide⟩, by decide⟩
  | 2, _ => exact ⟨b 9 (by decide) _ gap_nil, ⟨9, _, rfl, by decide⟩, by decide⟩
  | 3, _ => exact ⟨b 13 (by decide) _ (b 10 (by decide) _ gap_nil), ⟨13, _, rfl, by decide⟩, by decide⟩
  | 4, _ => exact ⟨b 32 (by decide) _ (gap_remark [32, 120, 32, 34] (by decide)), ⟨32, _, rfl, by decide⟩, by decide⟩
  | 5, _ => exact ⟨gap_remark [] (by decide), ⟨47, _, rfl, by decide⟩, by decide⟩
  | 6, _ => exact ⟨b 10 (by decide) _ (b 10 (by decide) _ (b 32 (by decide) _ (b 32 (by decide) _ gap_nil))), ⟨10, _, rfl, by decide⟩, by decide⟩
  | 7, _ => exact ⟨gap_app (gap_remark [255, 0] (by decide)) (gap_blank 9 (by decide)), ⟨47, _, rfl, by decide⟩, by decide⟩
def fillV (k : Int) : ByteArray := (latchkeylaw05_filler.f k).getD ByteArray.empty
theorem fillV_ok (k : Int) : latchkeylaw05_filler.f k = some (fillV k) ∧ GapP (fillV k).data.toList ∧ (∃ d r, (fillV k).data.toList = d :: r ∧ (blankN d.toNat = true ∨ d.toNat = 47)) ∧ (fillV k).size ≤ 8 := by
  obtain ⟨j, hj, e⟩ := fill_ok k
  have : fillV k = rdOf ByteArray.empty fillL (j : Int) := by unfold fillV; rw [e]; rfl
  rw [this]
  exact ⟨e, fill_gap j hj⟩
def gapK (g : List Int) (i : Nat) : Int := if (i : Int) < (g.length : Int) then rd g (i : Int) else 0
def partB (parts : List ByteArray) (i : Nat) : List UInt8 := (rdOf ByteArray.empty parts (i : Int)).data.toList
def preG (parts : List ByteArray) (i : Nat) : List UInt8 := if 0 < i ∧ partB parts (i - 1) = [47] then [32] else []
def gapB (parts : List ByteArray) (g : List Int) (i : Nat) : List UInt8 := if 0 < i ∨ Int.tmod (gapK g i) 3 ≠ 0 then preG parts i ++ (fillV (gapK g i)).data.toList else []
theorem pre_gap (parts : List ByteArray) (i : Nat) : GapP (preG parts i) := by
  unfold preG
  split
  · exact gap_blank 32 (by decide)
  · exact gap_nil
theorem gapB_ok (parts : List ByteArray) (g : List Int) : GapOk (gapB parts g) (partB parts) := by
  refine ⟨fun i => ?_, fun i hi => ?_⟩
  · unfold gapB
    split
    · exact gap_app (pre_gap parts i) (fillV_ok _).2.1
    · exact gap_nil
  · obtain ⟨_, _, ⟨d, r, e, hd⟩, _⟩ := fillV_ok (gapK g i)
    unfold gapB
    rw [if_pos (Or.inl hi)]
    unfold preG
    by_cases h : 0 < i ∧ partB parts (i - 1) = [47]
    · rw [if_pos h]
      exact ⟨32, _, rfl, Or.inl (by decide), fun _ => by decide⟩
    · rw [if_neg h]
      exact ⟨d, r, e, hd, fun h2 => absurd ⟨hi, h2⟩ h⟩
theorem gapB_len (parts : List ByteArray) (g : List Int) (i : Nat) : (gapB parts g i).length ≤ 9 := by
  unfold gapB
  split
  · have h := (fillV_ok (gapK g i)).2.2.2
    rw [List.length_append, len_toList]
    have : (preG parts i).length ≤ 1 := by unfold preG; split <;> simp
    omega
  · simp
theorem rd_ints (l : List Int) (i : Nat) (x : Int) (t : List Int) (h : l.drop i = x :: t) : rd l (i : Int) = x := by
  unfold rd
  rw [show ((i : Int)).toNat = i by omega]
  have : l[i]? = some x := by
    have := congrArg (·[0]?) h
    simpa using this
  simp [List.getD, this]
theorem places_ev (m : List S37) (hl : m.length ≤ 4294967296) : ∀ (N i : Nat), m.length - i ≤ N → i ≤ m.length → Ev (fun k => latchkeylaw05_TokensBlanks.l1 k (m.map (·.f2)) (m.map (·.f3)) m (i : Int)) true := by
  intro N
  have fin : ∀ i : Nat, ¬ i < m.length → Ev (fun k => latchkeylaw05_TokensBlanks.l1 k (m.map (·.f2)) (m.map (·.f3)) m (i : Int)) true := by
    intro i h
    refine Ev.succ ?_
    unfold latchkeylaw05_TokensBlanks.l1
    exact Ev.neg (by omega) (Ev.pure _)
  induction N with
  | zero => intro i h1 h2; exact fin i (by omega)
  | succ N ih =>
    intro i h1 h2
    by_cases h : i < m.length
    rotate_left
    · exact fin i h
    obtain ⟨x, t, e1, e2, e3⟩ := ldrop_cons h
    have hn := ih (i + 1) (by omega) (by omega)
    have g2 : (m.map (·.f2)).drop i = x.f2 :: t.map (·.f2) := by rw [← List.map_drop, e1]; rfl
    have g3 : (m.map (·.f3)).drop i = x.f3 :: t.map (·.f3) := by rw [← List.map_drop, e1]; rfl
    refine Ev.succ ?_
    unfold latchkeylaw05_TokensBlanks.l1
    rw [rd_at m i x t e1, rd_ints _ i _ _ g2, rd_ints _ i _ _ g3, tk_nat (by omega), List.length_map, List.length_map]
    exact Ev.pos (by omega) (Ev.pos (by omega) (Ev.pos (by omega) (Ev.pos rfl (Ev.pos (by omega) (Ev.pos rfl hn)))))
theorem app_data2 (a b : ByteArray) : (a ++ b).data.toList = a.data.toList ++ b.data.toList := by simp
theorem tail_ev (O : List S37) (g : List Int) (parts : List ByteArray) (X : ByteArray) (ls cs : List Int) (i : Nat) (hX : X.size ≤ 1000000000) (hls : ls.length ≤ 4294967296) (hcs : cs.length ≤ 4294967296) (hi : i ≤ 4294967296) (hp : (rdOf ByteArray.empty parts (i : Int)).size ≤ 1000000000)
    (hnext : Ev (fun k => latchkeylaw05_TokensBlanks.l0 k O g parts (if i < parts.length then X ++ rdOf ByteArray.empty parts (i : Int) else X) (ls ++ [((pos X.data.toList 1 1).1 : Int)]) (cs ++ [((pos X.data.toList 1 1).2 : Int)]) ((i + 1 : Nat) : Int)) true) :
    Ev (fun k => (latchkeyref05_Place.f k X (X.size : Int)).bind fun bt280 => (if ls.length < 17592186044416 then ((some (ls ++ [bt280.1] : List Int)).bind fun y282 => (if cs.length < 17592186044416 then ((some (cs ++ [bt280.2] : List Int)).bind fun y285 => (if (i : Int) < (parts.length : Int) then (if 0 ≤ (i : Int) then (if X.size + (rdOf ByteArray.empty parts (i : Int)).size ≤ 9223372036854775807 then (latchkeylaw05_TokensBlanks.l0 k O g parts (X ++ (rdOf ByteArray.empty parts (i : Int))) y282 y285 (wrap64 ((i : Int) + 1))) else (none)) else (none)) else (latchkeylaw05_TokensBlanks.l0 k O g parts X y282 y285 (wrap64 ((i : Int) + 1))))) else (none))) else (none))) true := by
  refine Ev.bind (place_ev X hX) (Ev.pos (by omega) (Ev.bind (Ev.pure _) (Ev.pos (by omega) (Ev.bind (Ev.pure _) ?_))))
  rw [tk_nat (by omega)]
  by_cases h : i < parts.length
  · rw [if_pos h] at hnext
    exact Ev.pos (by omega) (Ev.pos (by omega) (Ev.pos (by omega) hnext))
  · rw [if_neg h] at hnext
    exact Ev.neg (by omega) hnext
theorem step_ev (O : List S37) (g : List Int) (parts : List ByteArray) (X : ByteArray) (ls cs : List Int) (i : Nat) (hX : X.size ≤ 999000000) (hls : ls.length ≤ 4294967296) (hcs : cs.length ≤ 4294967296) (hi : i ≤ parts.length) (hpl : parts.length ≤ 4294967295) (hp : (rdOf ByteArray.empty parts (i : Int)).size ≤ 1000000000)
    (hnext : ∀ Y : ByteArray, Y.data.toList = X.data.toList ++ gapB parts g i → Ev (fun k => latchkeylaw05_TokensBlanks.l0 k O g parts (if i < parts.length then Y ++ rdOf ByteArray.empty parts (i : Int) else Y) (ls ++ [((pos Y.data.toList 1 1).1 : Int)]) (cs ++ [((pos Y.data.toList 1 1).2 : Int)]) ((i + 1 : Nat) : Int)) true) :
    Ev (fun k => latchkeylaw05_TokensBlanks.l0 k O g parts X ls cs (i : Int)) true := by
  obtain ⟨f1, _, _, f4⟩ := fillV_ok (gapK g i)
  have j5 : ∀ Y : ByteArray, Y.data.toList = X.data.toList ++ preG parts i → (0 < i ∨ Int.tmod (gapK g i) 3 ≠ 0) → Y.size ≤ 999000001 → Ev (fun k => latchkeylaw05_TokensBlanks.j5 k O g parts Y ls cs (i : Int) (gapK g i)) true := by
    intro Y hY hc hYs
    refine Ev.succ ?_
    unfold latchkeylaw05_TokensBlanks.j5
    refine Ev.bind (Ev.const f1) (Ev.pos (by omega) ?_)
    have hs2 : (Y ++ fillV (gapK g i)).size ≤ 1000000000 := by rw [ByteArray.size_append]; omega
    refine tail_ev O g parts (Y ++ fillV (gapK g i)) ls cs i hs2 hls hcs (by omega) hp (hnext _ ?_)
    rw [app_data2, hY, List.append_assoc]
    congr 1
    unfold gapB
    rw [if_pos hc]
  have j4 : (0 < i ∨ Int.tmod (gapK g i) 3 ≠ 0) → ∀ b : Bool, (b = true ↔ (0 < i ∧ partB parts (i - 1) = [47])) → Ev (fun k => latchkeylaw05_TokensBlanks.j4 k O g parts X ls cs (i : Int) (gapK g i) b) true := by
    intro hc b hb
    refine Ev.succ ?_
    unfold latchkeylaw05_TokensBlanks.j4
    by_cases h : 0 < i ∧ partB parts (i - 1) = [47]
    · refine Ev.pos (hb.2 h) (Ev.pos (by omega) (j5 _ ?_ hc ?_))
      · rw [app_data2]; unfold preG; rw [if_pos h]
      · rw [ByteArray.size_append]; have : (⟨#[32]⟩ : ByteArray).size = 1 := rfl; omega
    · refine Ev.neg (fun e => h (hb.1 e)) (j5 _ ?_ hc (by omega))
      unfold preG; rw [if_neg h, List.append_nil]
  have j3 : ∀ b : Bool, (b = true ↔ (0 < i ∨ Int.tmod (gapK g i) 3 ≠ 0)) → Ev (fun k => latchkeylaw05_TokensBlanks.j3 k O g parts X ls cs (i : Int) (gapK g i) b) true := by
    intro b hb
    refine Ev.succ ?_
    unfold latchkeylaw05_TokensBlanks.j3
    by_cases hc : 0 < i ∨ Int.tmod (gapK g i) 3 ≠ 0
    · refine Ev.pos (hb.2 hc) ?_
      by_cases hi0 : 0 < i
      · rw [wrap_pred hi0 (by omega)]
        refine Ev.pos (by omega) (Ev.pos (by omega) (Ev.pos (by omega) (j4 hc _ ?_)))
        rw [beq_iff_eq, Lib.toList_data]
        exact ⟨fun h => ⟨hi0, h⟩, fun h => h.2⟩
      · exact Ev.neg (by omega) (j4 hc false (by simp; intro h; omega))
    · refine Ev.neg (fun e => hc (hb.1 e)) (tail_ev O g parts X ls cs i (by omega) hls hcs (by omega) hp (hnext X ?_))
      unfold gapB; rw [if_neg hc, List.append_nil]
  have j2 : Ev (fun k => latchkeylaw05_TokensBlanks.j2 k O g parts X ls cs (i : Int) (gapK g i)) true := by
    refine Ev.succ ?_
    unfold latchkeylaw05_TokensBlanks.j2
    by_cases hi0 : 0 < i
    · exact Ev.pos (by omega) (j3 true (by simp [hi0]))
    · exact Ev.neg (by omega) (j3 _ (by simp; omega))
  refine Ev.succ ?_
  unfold latchkeylaw05_TokensBlanks.l0
  refine Ev.pos (by omega) ?_
  by_cases hg : (i : Int) < (g.length : Int)
  · have : gapK g i = rd g (i : Int) := by unfold gapK; rw [if_pos hg]
    rw [this] at j2
    exact Ev.pos hg (Ev.pos (by omega) j2)
  · have : gapK g i = 0 := by unfold gapK; rw [if_neg hg]
    rw [this] at j2
    exact Ev.neg hg j2
theorem build_ev (O : List S37) (g : List Int) (hO : O.length ≤ 2000) (hS : ∀ x ∈ O, (pb x).size ≤ 65536) (whole : List UInt8) (Ls Cs : List Int) (hw : whole.length ≤ 999000000)
    (hfin : ∀ T : ByteArray, T.data.toList = whole → Ev (fun k => latchkeylaw05_TokensBlanks.l0 k O g (O.map pb) T Ls Cs ((O.length + 1 : Nat) : Int)) true) :
    ∀ (L : List S37) (i : Nat) (X : ByteArray) (ls cs : List Int), O.drop i = L → i + L.length = O.length → X.data.toList ++ restG (gapB (O.map pb) g) i L = whole →
      ls ++ (rowsG (gapB (O.map pb) g) i X.data.toList L).map (·.f2) = Ls → cs ++ (rowsG (gapB (O.map pb) g) i X.data.toList L).map (·.f3) = Cs → ls.length ≤ i → cs.length ≤ i →
      Ev (fun k => latchkeylaw05_TokensBlanks.l0 k O g (O.map pb) X ls cs (i : Int)) true := by
  have hPl : (O.map pb).length = O.length := List.length_map ..
  have hps : ∀ i : Nat, (rdOf ByteArray.empty (O.map pb) (i : Int)).size ≤ 1000000000 := by
    intro i
    by_cases h : i < O.length
    · obtain ⟨x, t, e1, e2, e3⟩ := ldrop_cons h
      have hd : (O.map pb).drop i = pb x :: t.map pb := by rw [← List.map_drop, e1]; rfl
      rw [rdOf_at _ i _ _ hd]
      have := hS x e3; omega
    · unfold rdOf
      have : (O.map pb)[((i : Int)).toNat]? = none := List.getElem?_eq_none (by rw [hPl]; omega)
      rw [List.getD, this]; simp
  intro L
  induction L with
  | nil =>
    intro i X ls cs hd hi hX hls hcs hl1 hl2
    simp only [List.length_nil, Nat.add_zero] at hi
    have hXs : X.size ≤ 999000000 := by
      have := congrArg List.length hX
      rw [List.length_append, len_toList] at this; omega
    refine step_ev O g (O.map pb) X ls cs i hXs (by omega) (by omega) (by omega) (by omega) (hps i) ?_
    intro Y hY
    rw [if_neg (by omega)]
    have e1 : ls ++ [((pos Y.data.toList 1 1).1 : Int)] = Ls := by rw [← hls, hY]; rfl
    have e2 : cs ++ [((pos Y.data.toList 1 1).2 : Int)] = Cs := by rw [← hcs, hY]; rfl
    rw [e1, e2, hi]
    exact hfin Y (by rw [hY]; exact hX)
  | cons x t ih =>
    intro i X ls cs hd hi hX hls hcs hl1 hl2
    simp only [List.length_cons] at hi
    have hXs : X.size ≤ 999000000 := by
      have := congrArg List.length hX
      rw [List.length_append, len_toList] at this; omega
    refine step_ev O g (O.map pb) X ls cs i hXs (by omega) (by omega) (by omega) (by omega) (hps i) ?_
    intro Y hY
    rw [if_pos (by omega)]
    have hd2 : (O.map pb).drop i = pb x :: t.map pb := by rw [← List.map_drop, hd]; rfl
    rw [rdOf_at _ i _ _ hd2]
    have hYd : (Y ++ pb x).data.toList = X.data.toList ++ gapB (O.map pb) g i ++ byL (tokB x) := by rw [app_data2, hY, pb_data]
    refine ih (i + 1) (Y ++ pb x) _ _ (by rw [← List.drop_drop, hd]; rfl) (by omega) ?_ ?_ ?_ (by simp; omega) (by simp; omega)
    · rw [hYd, ← hX]
      rw [show restG (gapB (O.map pb) g) i (x :: t) = gapB (O.map pb) g i ++ (byL (tokB x) ++ restG (gapB (O.map pb) g) (i + 1) t) from rfl]
      simp
    · rw [hYd, ← hls, hY]
      rw [show rowsG (gapB (O.map pb) g) i X.data.toList (x :: t) = ⟨x.f0, x.f1, ((pos (X.data.toList ++ gapB (O.map pb) g i) 1 1).1 : Int), ((pos (X.data.toList ++ gapB (O.map pb) g i) 1 1).2 : Int)⟩ :: rowsG (gapB (O.map pb) g) (i + 1) (X.data.toList ++ gapB (O.map pb) g i ++ byL (tokB x)) t from rfl]
      simp
    · rw [hYd, ← hcs, hY]
      rw [show rowsG (gapB (O.map pb) g) i X.data.toList (x :: t) = ⟨x.f0, x.f1, ((pos (X.data.toList ++ gapB (O.map pb) g i) 1 1).1 : Int), ((pos (X.data.toList ++ gapB (O.map pb) g i) 1 1).2 : Int)⟩ :: rowsG (gapB (O.map pb) g) (i + 1) (X.data.toList ++ gapB (O.map pb) g i ++ byL (tokB x)) t from rfl]
      simp
theorem rows_len (G : Nat → List UInt8) : ∀ (L : List S37) (i : Nat) (P : List UInt8), (rowsG G i P L).length = L.length + 1
  | [], _, _ => rfl
  | x :: t, i, P => by unfold rowsG; rw [List.length_cons, rows_len G t, List.length_cons]
theorem rows_kt (G : Nat → List UInt8) : ∀ (L : List S37) (i : Nat) (P : List UInt8), ∃ R e, rowsG G i P L = R ++ [e] ∧ e.f0 = 7 ∧ R.map kt = L.map kt
  | [], i, P => ⟨[], _, rfl, rfl, rfl⟩
  | x :: t, i, P => by
    unfold rowsG
    obtain ⟨R, e, r1, r2, r3⟩ := rows_kt G t (i + 1) (P ++ G i ++ byL (tokB x))
    rw [r1]
    exact ⟨_ :: R, e, rfl, r2, by rw [List.map_cons, List.map_cons, r3]; rfl⟩
theorem rest_len (G : Nat → List UInt8) (hG : ∀ i, (G i).length ≤ 9) : ∀ (L : List S37) (i : Nat), (∀ x ∈ L, (tokB x).length ≤ 65536) → (restG G i L).length ≤ 9 + 65545 * L.length
  | [], i, _ => by have := hG i; simpa [restG] using this
  | x :: t, i, h => by
    have := rest_len G hG t (i + 1) (fun y hy => h y (List.mem_cons_of_mem _ hy))
    have h1 := hG i
    have h2 := h x (List.mem_cons_self ..)
    unfold restG
    rw [List.length_append, List.length_append, byL_len, List.length_cons]
    omega
theorem blanks_pure (l : List S37) (g : List Int) (hb : ∀ x ∈ l, x.f1.size ≤ 140737488355328) (hl : l.length ≤ 140737488355328) : ∃ k, latchkeylaw05_TokensBlanks.f k l g = some true := by
  refine Ev.out (F := fun k => latchkeylaw05_TokensBlanks.f k l g) ?_
  unfold latchkeylaw05_TokensBlanks.f
  obtain ⟨b, hB, hw⟩ := beyond_ev l hb hl
  refine Ev.bind hB ?_
  have jt : Ev (fun k => latchkeylaw05_TokensBlanks.j0 k l g true) true := by
    refine Ev.succ ?_
    unfold latchkeylaw05_TokensBlanks.j0
    exact Ev.pos rfl (Ev.pure _)
  cases b with
  | true => exact Ev.pos rfl (Ev.pure _)
  | false =>
    have hw := hw rfl
    have hlen := wt_len l
    refine Ev.neg (by simp) (Ev.bind awake_ev (Ev.pos rfl (Ev.bind (copy_ev l hw) (Ev.bind (tokprint_ev l hw) ?_))))
    unfold printV
    by_cases hm : mayAll l = true
    rotate_left
    · rw [if_neg hm]
      exact Ev.neg (by simp) jt
    rw [if_pos hm]
    unfold printTail
    rw [List.nil_append]
    by_cases ht : 65536 < (addAll 0 l).length
    · rw [if_pos ht]
      exact Ev.neg (by simp) jt
    rw [if_neg ht]
    refine Ev.pos rfl ?_
    by_cases h2000 : 2000 < l.length
    · rw [show decide ((l.length : Int) > 2000) = true by simp; omega]
      exact jt
    rw [show decide ((l.length : Int) > 2000) = false by simp; omega]
    have hown := own_len l
    have hall : ∀ x ∈ ownF l, x.f0 ≠ 7 ∧ (∃ b, mayF x.f0 x.f1 b = true) ∧ (tokB x).length ≤ 65536 ∧ 8 + x.f1.size ≤ 2147483647 := fun x hx => by
      obtain ⟨a, b, c⟩ := own_mem l 0 x hm hx
      have := wt_mem8 l x a
      exact ⟨(own_split l hm).1 x hx, b, by omega, by omega⟩
    have hpieces := pieces_ev (ownF l) hall (by omega)
    have hnosplit : ∀ x ∈ ownF l, x.f0 ≠ 7 := fun x hx => (hall x hx).1
    refine Ev.succ ?_
    unfold latchkeylaw05_TokensBlanks.j0
    refine Ev.neg (by simp) (Ev.bind (Ev.const (ahead_may l hm (by omega))) (Ev.bind hpieces (Ev.pos rfl ?_)))
    generalize hO : ownF l = O at hown hall hpieces hnosplit ⊢
    have hg9 : ∀ i, (gapB (O.map pb) g i).length ≤ 9 := fun i => gapB_len _ _ i
    have hwl := rest_len (gapB (O.map pb) g) hg9 O 0 (fun x hx => (hall x hx).2.2.1)
    refine build_ev O g (by omega) (fun x hx => by rw [pb_size]; exact (hall x hx).2.2.1) (restG (gapB (O.map pb) g) 0 O) ((rowsG (gapB (O.map pb) g) 0 [] O).map (·.f2)) ((rowsG (gapB (O.map pb) g) 0 [] O).map (·.f3)) (by omega) ?_ O 0 ⟨#[]⟩ [] [] rfl (by omega) rfl rfl rfl (by simp) (by simp)
    intro T hT
    refine Ev.succ ?_
    unfold latchkeylaw05_TokensBlanks.l0
    refine Ev.neg (by rw [List.length_map]; omega) ?_
    by_cases hs : 65536 < T.size
    · exact Ev.pos (by omega) (Ev.pure _)
    refine Ev.neg (by omega) ?_
    have hBp : ∀ j x, O[j]? = some x → partB (O.map pb) (0 + j) = byL (tokB x) := by
      intro j x hx
      unfold partB
      have hj := (List.getElem?_eq_some_iff.1 hx).1
      obtain ⟨y, t, e1, e2, e3⟩ := ldrop_cons hj
      have hxy : y = x := by
        have h0 : O[j]? = some y := by
          have := congrArg (·[0]?) e1
          simpa using this
        rw [h0] at hx; exact Option.some.inj hx
      have hd : (O.map pb).drop j = pb y :: t.map pb := by rw [← List.map_drop, e1]; rfl
      rw [Nat.zero_add, rdOf_at _ j _ _ hd, pb_data, hxy]
    obtain ⟨g1, g2⟩ := scan_gaps T (by omega) (gapB (O.map pb) g) (partB (O.map pb)) (gapB_ok _ _) O (T.size + 1) 0 1 0 [] (fun x hx => ⟨(hall x hx).1, (hall x hx).2.1⟩) hBp (by rw [hT]; rfl) (by simp) rfl (by simp)
    simp only [List.length_nil, List.drop_zero] at g1 g2
    have hsc := tokscan_ev T
    rw [scanV_ok (by omega) g1, g2] at hsc
    obtain ⟨R, e, r1, r2, r3⟩ := rows_kt (gapB (O.map pb) g) O 0 []
    have hml := rows_len (gapB (O.map pb) g) O 0 []
    have hRl : R.length = O.length := by have := congrArg List.length r3; simpa using this
    have hal : Ev (fun k => latchkeylaw05_alike.f k (rowsG (gapB (O.map pb) g) 0 [] O) O) true := by
      unfold latchkeylaw05_alike.f
      have har : latchkeylaw05_ahead.f (rowsG (gapB (O.map pb) g) 0 [] O) = some R := by rw [r1]; exact ahead_app R e r2 (by omega)
      exact Ev.bind (Ev.const har) (Ev.bind (Ev.const (ahead_own O hnosplit (by omega))) (Ev.pos (by omega) (alike_ev R O r3 (by omega))))
    have hpl := places_ev (rowsG (gapB (O.map pb) g) 0 [] O) (by omega) (rowsG (gapB (O.map pb) g) 0 [] O).length 0 (by omega) (by omega)
    refine Ev.bind hsc (Ev.neg (by simp) (Ev.pos ?_ (Ev.bind hal ?_)))
    · rw [hml, tk_nat (by omega)]
    · refine Ev.succ ?_
      unfold latchkeylaw05_TokensBlanks.j6
      exact Ev.neg (by simp) hpl
end Go.Proofs.YteedjhoffjkhmaaDoor.Q
