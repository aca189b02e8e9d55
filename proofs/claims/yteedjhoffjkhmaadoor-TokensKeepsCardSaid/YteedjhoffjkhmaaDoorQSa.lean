import Derived.Test.YteedjhoffjkhmaaDoorPTx5
import Derived.Test.YteedjhoffjkhmaaDoorPTx6
import Derived.Test.YteedjhoffjkhmaaDoorPTx7
import Derived.Test.YteedjhoffjkhmaaDoorPTx0
import Derived.Test.YteedjhoffjkhmaaDoorPTx3
import Derived.Test.YteedjhoffjkhmaaDoorPTx14
namespace Go.Proofs.YteedjhoffjkhmaaDoor.Q
open Go.RowKit Go.Proofs.YteedjhoffjkhmaaDoor.PT Go.Proofs.YteedjhoffjkhmaaDoorW.PrintWords Go.Proofs.YteedjhoffjkhmaaDoorW.PrintLast Go.Proofs.YteedjhoffjkhmaaDoorW.PrintMore
set_option linter.unusedVariables false
set_option linter.unusedSimpArgs false
def Ev {α : Type} (F : Nat → Option α) (v : α) : Prop := ∃ K, ∀ k, K ≤ k → F k = some v
theorem Ev.pure {α : Type} (v : α) : Ev (fun _ => some v) v := ⟨0, fun _ _ => rfl⟩
theorem Ev.const {α : Type} {o : Option α} {v : α} (h : o = some v) : Ev (fun _ => o) v := ⟨0, fun _ _ => h⟩
theorem Ev.bind {α β : Type} {F : Nat → Option α} {G : Nat → α → Option β} {a : α} {v : β} (h : Ev F a) (g : Ev (fun k => G k a) v) : Ev (fun k => (F k).bind (G k)) v := by
  obtain ⟨K, hK⟩ := h
  obtain ⟨L, hL⟩ := g
  exact ⟨max K L, fun k hk => by show (F k).bind (G k) = some v; rw [hK k (by omega)]; exact hL k (by omega)⟩
theorem Ev.succ {α : Type} {F : Nat → Option α} {v : α} (h : Ev (fun k => F (k + 1)) v) : Ev F v := by
  obtain ⟨K, hK⟩ := h
  exact ⟨K + 1, fun k hk => by obtain ⟨j, rfl⟩ : ∃ j, k = j + 1 := ⟨k - 1, by omega⟩; exact hK j (by omega)⟩
theorem Ev.congr {α : Type} {F G : Nat → Option α} {v : α} (h : ∀ k, F k = G k) (g : Ev G v) : Ev F v := by
  obtain ⟨K, hK⟩ := g
  exact ⟨K, fun k hk => (h k).trans (hK k hk)⟩
theorem Ev.pos {α : Type} {c : Prop} [Decidable c] {F G : Nat → Option α} {v : α} (hc : c) (h : Ev F v) : Ev (fun k => if c then F k else G k) v := Ev.congr (fun k => if_pos hc) h
theorem Ev.neg {α : Type} {c : Prop} [Decidable c] {F G : Nat → Option α} {v : α} (hc : ¬ c) (h : Ev G v) : Ev (fun k => if c then F k else G k) v := Ev.congr (fun k => if_neg hc) h
theorem Ev.out {α : Type} {F : Nat → Option α} {v : α} (h : Ev F v) : ∃ k, F k = some v := by
  obtain ⟨K, hK⟩ := h
  exact ⟨K, hK K (Nat.le_refl _)⟩
theorem Ev.val {α : Type} {F : Nat → Option α} {v v' : α} (h : Ev F v) (e : v = v') : Ev F v' := e ▸ h
theorem w64 {x : Int} (h0 : -9223372036854775808 ≤ x) (h1 : x < 9223372036854775808) : wrap64 x = x := by
  unfold wrap64; omega
theorem Ev.of_mono {α : Type} {F : Nat → Option α} {K : Nat} {v : α} (m : ∀ k, LeO (F k) (F (k + 1))) (h : F K = some v) : Ev F v := by
  refine ⟨K, fun k hk => ?_⟩
  obtain ⟨j, rfl⟩ : ∃ j, k = K + j := ⟨k - K, by omega⟩
  clear hk
  induction j with
  | zero => exact h
  | succ j ih => exact m _ _ ih
def hexV (c : Nat) : Option Nat := if 48 ≤ c ∧ c ≤ 57 then some (c - 48) else if 97 ≤ c ∧ c ≤ 102 then some (c - 87) else if 65 ≤ c ∧ c ≤ 70 then some (c - 55) else none
theorem hexV_lt {c a : Nat} (h : hexV c = some a) : a < 16 := by
  unfold hexV at h
  split at h
  · simp at h; omega
  · split at h
    · simp at h; omega
    · split at h
      · simp at h; omega
      · simp at h
def hexP (c : Nat) : Int × Bool := match hexV c with
  | some a => ((a : Int), true)
  | none => (0, false)
theorem hex_all : ∀ c : Fin 256, tokens_hex.f 2 (c.val : Int) = some (hexP c.val) := by decide +kernel
theorem tokens_hex_ev (c : Nat) (hc : c < 256) : Ev (fun k => tokens_hex.f k (c : Int)) (hexP c) := Ev.of_mono (fun k => tokens_hex.mono _ k) (hex_all ⟨c, hc⟩)
def qF : List UInt8 → List Int → Nat → List Int × Nat × Bool
  | [], _, i => ([], i, false)
  | [c], out, i => if c.toNat = 34 then (out, i + 1, true) else if c.toNat < 32 then ([], i, false) else ([], i + 1, false)
  | c :: e :: t, out, i =>
    if c.toNat = 34 then (out, i + 1, true)
    else if c.toNat < 32 then ([], i, false)
    else if c.toNat ≠ 92 then qF (e :: t) (out ++ [(c.toNat : Int)]) (i + 1)
    else if e.toNat = 34 ∨ e.toNat = 92 then qF t (out ++ [(e.toNat : Int)]) (i + 2)
    else if e.toNat = 110 then qF t (out ++ [10]) (i + 2)
    else if e.toNat ≠ 120 then ([], i + 1, false)
    else match t with
      | [] => ([], i + 2, false)
      | h1 :: t1 => match hexV h1.toNat with
        | none => ([], i + 2, false)
        | some a => match t1 with
          | [] => ([], i + 3, false)
          | h2 :: t2 => match hexV h2.toNat with
            | none => ([], i + 3, false)
            | some b => qF t2 (out ++ [(16 * a + b : Int)]) (i + 4)
theorem or_u8 : ∀ a : Nat, a < 16 → ∀ b : Nat, b < 16 → Go.bits .or .u8 (((a : Int) * 16) % 256) (b : Int) = 16 * (a : Int) + (b : Int) := by decide +kernel
def escP : List UInt8 → Int × Int × Bool
  | [] => (0, 0, false)
  | e :: t => if e.toNat = 34 ∨ e.toNat = 92 then ((e.toNat : Int), 1, true) else if e.toNat = 110 then (10, 1, true) else if e.toNat ≠ 120 then (0, 0, false) else match t with
    | [] => (0, 1, false)
    | h1 :: t1 => match hexV h1.toNat with
      | none => (0, 1, false)
      | some a => match t1 with
        | [] => (0, 2, false)
        | h2 :: _ => match hexV h2.toNat with
          | none => (0, 2, false)
          | some b => ((16 * a + b : Int), 3, true)
theorem hexP_none {c : Nat} (h : hexV c = none) : hexP c = (0, false) := by unfold hexP; rw [h]
theorem hexP_some {c a : Nat} (h : hexV c = some a) : hexP c = ((a : Int), true) := by unfold hexP; rw [h]
theorem Ev.hex {c : Nat} (hc : c < 256) : Ev (fun k => tokens_hex.f k (c : Int)) (hexP c) := tokens_hex_ev c hc
theorem bt_cons {s : ByteArray} {L : List UInt8} {n : Nat} {c : UInt8} (hs : s.data.toList = L) (h : L[n]? = some c) : bt s (n : Int) = (c.toNat : Int) := bt_of (by rw [hs]; exact h)
theorem tokens_escape_ev (s : ByteArray) (L : List UInt8) (hs : s.data.toList = L) : Ev (fun k => tokens_escape.f k s) (escP L) := by
  have hl : s.size = L.length := by rw [← hs]; exact (len_toList s).symm
  unfold tokens_escape.f
  rw [Lib.toList_data, hs]
  cases L with
  | nil => exact Ev.pos rfl (Ev.pure _)
  | cons e t =>
    have hl1 : s.size = t.length + 1 := by rw [hl]; rfl
    have b0 : bt s 0 = (e.toNat : Int) := bt_cons (n := 0) hs rfl
    refine Ev.neg (by simp) (Ev.pos (by omega) ?_)
    have key : ∀ b : Bool, (b = true ↔ (e.toNat = 34 ∨ e.toNat = 92)) → Ev (fun k => tokens_escape.j0 k s (e.toNat : Int) b) (escP (e :: t)) := by
      intro b hb
      refine Ev.succ ?_
      simp only [tokens_escape.j0, escP]
      by_cases h1 : e.toNat = 34 ∨ e.toNat = 92
      · rw [if_pos h1]
        refine Ev.pos (hb.2 h1) (Ev.pos (by omega) (Ev.const ?_))
        rw [b0]
      · rw [if_neg h1]
        refine Ev.neg (fun h => h1 (hb.1 h)) ?_
        by_cases h2 : e.toNat = 110
        · rw [if_pos h2]
          exact Ev.pos (by omega) (Ev.pure _)
        · rw [if_neg h2]
          refine Ev.neg (by omega) ?_
          by_cases h3 : e.toNat = 120
          · rw [if_neg (by omega)]
            refine Ev.pos (by omega) (Ev.succ ?_)
            simp only [tokens_escape.l0]
            refine Ev.pos (by omega) ?_
            cases t with
            | nil => exact Ev.pos (by simp [hl1]) (Ev.pure _)
            | cons g t1 =>
              have hl2 : s.size = t1.length + 2 := by rw [hl1]; rfl
              have b1 : bt s 1 = (g.toNat : Int) := bt_cons (n := 1) hs rfl
              refine Ev.neg (by omega) (Ev.pos (by omega) (Ev.pos (by omega) ?_))
              rw [b1]
              refine Ev.bind (Ev.hex g.toNat_lt) ?_
              rcases ho : hexV g.toNat with _ | a
              · simp only [hexP_none ho, ho]
                exact Ev.neg (by simp) (Ev.pure _)
              · have hg := ho
                clear ho
                simp only [hexP_some hg, hg]
                refine Ev.pos (by trivial) (Ev.succ ?_)
                simp only [tokens_escape.l0]
                have w2 : wrap64 (1 + 1) = 2 := by rw [w64 (by omega) (by omega)]; rfl
                rw [w2]
                refine Ev.pos (by omega) ?_
                have ho : Go.bits .or .u8 ((0 * 16) % 256) (a : Int) = (a : Int) := by
                  have := or_u8 0 (by omega) a (hexV_lt hg)
                  simpa using this
                cases t1 with
                | nil => exact Ev.pos (by simp [hl2]) (Ev.pure _)
                | cons g2 t2 =>
                  have hl3 : s.size = t2.length + 3 := by rw [hl2]; rfl
                  have b2 : bt s 2 = (g2.toNat : Int) := bt_cons (n := 2) hs rfl
                  refine Ev.neg (by omega) (Ev.pos (by omega) (Ev.pos (by omega) ?_))
                  rw [b2, ho]
                  refine Ev.bind (Ev.hex g2.toNat_lt) ?_
                  rcases hg2 : hexV g2.toNat with _ | b
                  · simp only [hexP_none hg2, hg2]
                    exact Ev.neg (by simp) (Ev.pure _)
                  · simp only [hexP_some hg2, hg2]
                    refine Ev.pos (by trivial) (Ev.succ ?_)
                    simp only [tokens_escape.l0]
                    have w3 : wrap64 (2 + 1) = 3 := by rw [w64 (by omega) (by omega)]; rfl
                    rw [w3]
                    refine Ev.neg (by omega) (Ev.const ?_)
                    rw [or_u8 a (hexV_lt hg) b (hexV_lt hg2)]
          · rw [if_pos h3]
            exact Ev.neg (by omega) (Ev.pure _)
    rw [b0]
    by_cases h : e.toNat = 34
    · exact Ev.pos (by omega) (key _ (by simp; omega))
    · exact Ev.neg (by omega) (key _ (by simp; omega))
theorem qF_plain {c : UInt8} (h34 : c.toNat ≠ 34) (h32 : ¬ c.toNat < 32) (h92 : c.toNat ≠ 92) (T : List UInt8) (out : List Int) (i : Nat) : qF (c :: T) out i = qF T (out ++ [(c.toNat : Int)]) (i + 1) := by
  cases T with
  | nil => simp [qF, h34, h32]
  | cons e t => conv => lhs; rw [qF.eq_def]
                simp [h34, h32, h92]
theorem qF_end {c : UInt8} (h34 : c.toNat = 34) (T : List UInt8) (out : List Int) (i : Nat) : qF (c :: T) out i = (out, i + 1, true) := by
  cases T with
  | nil => simp [qF, h34]
  | cons e t => conv => lhs; rw [qF.eq_def]
                simp [h34]
theorem qF_low {c : UInt8} (h34 : c.toNat ≠ 34) (h32 : c.toNat < 32) (T : List UInt8) (out : List Int) (i : Nat) : qF (c :: T) out i = ([], i, false) := by
  cases T with
  | nil => simp [qF, h34, h32]
  | cons e t => conv => lhs; rw [qF.eq_def]
                simp [h34, h32]
def escK (p : Int × Int × Bool) (T : List UInt8) (out : List Int) (i : Nat) : List Int × Nat × Bool :=
  if p.2.2 = true then qF (T.drop p.2.1.toNat) (out ++ [p.1]) (i + 1 + p.2.1.toNat) else ([], i + 1 + p.2.1.toNat, false)
theorem qF_esc {c : UInt8} (h : c.toNat = 92) (T : List UInt8) (out : List Int) (i : Nat) :
    qF (c :: T) out i = escK (escP T) T out i := by
  cases T with
  | nil => simp [qF, h, escP, escK]
  | cons e t =>
    conv => lhs; rw [qF.eq_def]
    simp only [escP]
    rw [if_neg (by omega), if_neg (by omega), if_neg (by omega)]
    by_cases h1 : e.toNat = 34 ∨ e.toNat = 92
    · rw [if_pos h1, if_pos h1]; rfl
    · rw [if_neg h1, if_neg h1]
      by_cases h2 : e.toNat = 110
      · rw [if_pos h2, if_pos h2]; rfl
      · rw [if_neg h2, if_neg h2]
        by_cases h3 : e.toNat = 120
        · rw [if_neg (by omega), if_neg (by omega)]
          cases t with
          | nil => rfl
          | cons g t1 =>
            simp only
            rcases hg : hexV g.toNat with _ | a
            · simp only [hg]; rfl
            · simp only [hg]
              cases t1 with
              | nil => rfl
              | cons g2 t2 =>
                simp only
                rcases hg2 : hexV g2.toNat with _ | b
                · simp only [hg2]; rfl
                · simp only [hg2]; rfl
        · rw [if_pos h3, if_pos h3]; rfl
theorem escP_len (T : List UInt8) : 0 ≤ (escP T).2.1 ∧ (escP T).2.1.toNat ≤ T.length ∧ ((escP T).2.2 = true → 1 ≤ (escP T).2.1) := by
  unfold escP
  cases T with
  | nil => simp
  | cons e t =>
    simp only
    split
    · simp
    · split
      · simp
      · split
        · simp
        · cases t with
          | nil => simp
          | cons g t1 =>
            simp only
            rcases hg : hexV g.toNat with _ | a
            · simp
            · cases t1 with
              | nil => simp
              | cons g2 t2 =>
                simp only
                rcases hg2 : hexV g2.toNat with _ | b
                · simp
                · simp
def qR (r : List Int × Nat × Bool) : ByteArray × Int × Bool := (strOfNums r.1, (r.2.1 : Int), r.2.2)
theorem nums_nil : strOfNums [] = (⟨#[]⟩ : ByteArray) := rfl
theorem tail_toList (s : ByteArray) (a : Nat) : (s.extract a s.size).data.toList = s.data.toList.drop a := by
  exact Lib.extract_to_end s a
theorem quoted_ev (s : ByteArray) (hsz : s.size ≤ 4611686018427387904 / 65536) : ∀ (N : Nat) (L : List UInt8) (i : Nat) (out : List Int), L.length ≤ N → s.data.toList.drop i = L → i ≤ s.size → out.length ≤ i →
    Ev (fun k => tokens_quoted.l0 k s out (i : Int)) (qR (qF L out i)) := by
  intro N
  induction N with
  | zero =>
    intro L i out hN hL hi ho
    obtain rfl : L = [] := List.length_eq_zero_iff.1 (by omega)
    have : s.size ≤ i := by
      have := congrArg List.length hL
      rw [List.length_drop, len_toList] at this
      simp at this; omega
    refine Ev.succ ?_
    simp only [tokens_quoted.l0]
    refine Ev.neg (by omega) (Ev.const ?_)
    simp [qF, qR, nums_nil, show i = s.size by omega]
  | succ N ih =>
    intro L i out hN hL hi ho
    cases L with
    | nil => exact ih [] i out (by simp) hL hi ho
    | cons c T =>
      have hlen := congrArg List.length hL
      rw [List.length_drop, len_toList, List.length_cons] at hlen
      have hc : s.data.toList[i]? = some c := by
        have := congrArg (fun l => l[0]?) hL
        simpa [List.getElem?_drop] using this
      have hT : s.data.toList.drop (i + 1) = T := by
        have := congrArg (List.drop 1) hL
        simpa [List.drop_drop] using this
      have hb : bt s (i : Int) = (c.toNat : Int) := bt_of hc
      have hN' : T.length ≤ N := by simp at hN; omega
      have hw : wrap64 ((i : Int) + 1) = ((i + 1 : Nat) : Int) := by rw [w64 (by omega) (by omega)]; omega
      refine Ev.succ ?_
      simp only [tokens_quoted.l0]
      refine Ev.pos (by omega) (Ev.pos (by omega) ?_)
      rw [hb, hw]
      by_cases h34 : c.toNat = 34
      · refine Ev.pos (by omega) (Ev.const ?_)
        rw [qF_end h34]; rfl
      · refine Ev.neg (by omega) ?_
        by_cases h32 : c.toNat < 32
        · refine Ev.pos (by omega) (Ev.const ?_)
          rw [qF_low h34 h32]; rfl
        · refine Ev.neg (by omega) ?_
          by_cases h92 : c.toNat = 92
          · refine Ev.pos (by omega) (Ev.pos (by omega) (Ev.pos (by omega) ?_))
            refine Ev.bind (tokens_escape_ev _ T (by rw [show ((i + 1 : Nat) : Int).toNat = i + 1 from rfl, tail_toList, hT])) ?_
            rw [qF_esc h92]
            simp only [escK]
            obtain ⟨he0, he1, he2⟩ := escP_len T
            generalize escP T = p at he0 he1 he2
            obtain ⟨b, n, ok⟩ := p
            simp only at he0 he1 he2
            obtain ⟨m, rfl⟩ : ∃ m : Nat, n = (m : Int) := ⟨n.toNat, by omega⟩
            simp only [Int.toNat_natCast] at he1 ⊢
            by_cases hok : ok = true
            · subst hok
              have hm := he2 rfl
              refine Ev.pos rfl (Ev.pos (by omega) ?_)
              have e1 : wrap64 ((m : Int) - 1) = (m : Int) - 1 := w64 (by omega) (by omega)
              have e2 : wrap64 (((i + 1 : Nat) : Int) + ((m : Int) - 1)) = ((i + 1 : Nat) : Int) + ((m : Int) - 1) := w64 (by omega) (by omega)
              have e3 : wrap64 (((i + 1 : Nat) : Int) + ((m : Int) - 1) + 1) = ((i + 1 + m : Nat) : Int) := by rw [w64 (by omega) (by omega)]; omega
              rw [e1, e2, e3, if_pos rfl]
              refine ih (T.drop m) (i + 1 + m) _ (by rw [List.length_drop]; omega) (by rw [← hT, List.drop_drop]) (by omega) (by simp; omega)
            · have hok' : ok = false := by simpa using hok
              subst hok'
              refine Ev.neg (by simp) (Ev.const ?_)
              rw [if_neg (by simp)]
              simp only [qR, nums_nil]
              rw [w64 (by omega) (by omega)]
              congr 2
          · refine Ev.neg (by omega) (Ev.pos (by omega) ?_)
            rw [qF_plain h34 h32 h92]
            exact ih T (i + 1) _ hN' hT (by omega) (by simp; omega)
def wordsL : List (List UInt8) := [[116, 121, 112, 101], [114, 101, 108, 97, 116, 105, 111, 110], [99, 111, 110, 100], [111, 114], [97, 110, 100], [110, 111, 116], [102, 114, 111, 109], [119, 105, 116, 104], [105, 110], [116, 114, 117, 101], [102, 97, 108, 115, 101], [110, 97, 110], [105, 110, 102]]
theorem if_or (L w : List UInt8) (r : Option Bool) (b : Bool) (h : r = some b) : (if L = w then some true else r) = some (L == w || b) := by
  by_cases e : L = w
  · rw [if_pos e, e, beq_self_eq_true, Bool.true_or]
  · rw [if_neg e, h, beq_false_of_ne e, Bool.false_or]
theorem word_eq (s : ByteArray) : tokens_word.f s = some (wordsL.contains s.data.toList) := by
  unfold tokens_word.f
  rw [Lib.toList_data]
  generalize s.data.toList = L
  simp only [wordsL, List.contains_eq_any_beq, List.any_cons, List.any_nil]
  repeat refine if_or _ _ _ _ ?_
  rfl
def smallN (c : Nat) : Bool := decide (97 ≤ c) && decide (c ≤ 122)
def digitN (c : Nat) : Bool := decide (48 ≤ c) && decide (c ≤ 57)
def blankN (c : Nat) : Bool := decide (c = 32) || decide (c = 9) || decide (c = 10) || decide (c = 13)
def withinN (c : Nat) : Bool := smallN c || digitN c || decide (c = 95)
def singleN (c : Nat) : Bool := decide (c = 91 ∨ c = 93 ∨ c = 40 ∨ c = 41 ∨ c = 44 ∨ c = 58 ∨ c = 35 ∨ c = 42 ∨ c = 43 ∨ c = 45)
def bg (c : Nat) : Bool × Int × Int :=
  if smallN c = true then (true, 3, 1) else if digitN c = true then (true, 4, 1) else if c = 34 then (true, 10, 1) else if c = 47 then (true, 1, 1)
  else if c = 61 ∨ c = 60 ∨ c = 62 then (true, 14, 1) else if c = 33 then (true, 15, 1) else (blankN c || singleN c, 0, 1)
def hexOk (c : Nat) : Bool := (hexV c).isSome
def tkD (st n : Int) (c : Nat) : Bool × Int × Int :=
  if digitN c = true then (if st = 5 then (true, 6, n) else if st = 7 ∨ st = 8 then (true, 9, n) else (true, st, n))
  else if st = 4 ∧ c = 46 then (true, 5, n) else if st = 6 ∧ c = 101 then (true, 7, n) else if st = 7 ∧ c = 45 then (true, 8, n)
  else if st = 4 ∨ st = 6 ∨ st = 9 then (if smallN c = true then (false, st, n) else bg c) else (false, st, n)
def tkT (st n : Int) (c : Nat) : Bool × Int × Int :=
  if st = 10 then (decide (32 ≤ c), if c = 92 then 11 else if c = 34 then 0 else 10, n)
  else if st = 11 then (decide (c = 34 ∨ c = 92 ∨ c = 110 ∨ c = 120), if c = 120 then 12 else 10, n)
  else if st = 12 then (hexOk c, 13, n) else (hexOk c, 10, n)
def tk (st n : Int) (c : Nat) : Bool × Int × Int :=
  if st = 0 then bg c
  else if st = 1 then (if c = 47 then (true, 2, n) else bg c)
  else if st = 2 then (if c = 10 then (true, 0, n) else (true, 2, n))
  else if st = 3 then (if withinN c = true then (decide (wrap64 (n + 1) ≤ 32), 3, wrap64 (n + 1)) else bg c)
  else if st = 14 then (if c = 61 then (true, 0, n) else bg c)
  else if st = 15 then (decide (c = 61), 0, n)
  else if st = 10 ∨ st = 11 ∨ st = 12 ∨ st = 13 then tkT st n c
  else tkD st n c
def badst (st : Int) : Bool := decide (st = 5 ∨ st = 7 ∨ st = 8 ∨ st = 10 ∨ st = 11 ∨ st = 12 ∨ st = 13 ∨ st = 15)
def stop : List UInt8 → Int → Int → Option Nat
  | [], st, n => if badst st = true then some 0 else none
  | c :: t, st, n => if (tk st n c.toNat).1 = true then (stop t (tk st n c.toNat).2.1 (tk st n c.toNat).2.2).map (· + 1) else some 0
abbrev stop0 (L : List UInt8) : Option Nat := stop L 0 0
theorem stop_n (L : List UInt8) (n : Int) : stop L 0 n = stop0 L := by
  cases L with
  | nil => rfl
  | cons c t => simp [stop, tk]
def sh (k : Nat) (o : Option Nat) : Option Nat := o.map (· + k)
theorem sh_sh (a b : Nat) (o : Option Nat) : sh a (sh b o) = sh (a + b) o := by cases o <;> simp [sh]; omega
theorem sh_zero (o : Option Nat) : sh 0 o = o := by cases o <;> simp [sh]
theorem stop_go {c : UInt8} {t : List UInt8} {st n st' n' : Int} (h : tk st n c.toNat = (true, st', n')) : stop (c :: t) st n = sh 1 (stop t st' n') := by
  rw [show stop (c :: t) st n = if (tk st n c.toNat).1 = true then (stop t (tk st n c.toNat).2.1 (tk st n c.toNat).2.2).map (· + 1) else some 0 from rfl, h]
  rfl
theorem stop_no {c : UInt8} {t : List UInt8} {st n st' n' : Int} (h : tk st n c.toNat = (false, st', n')) : stop (c :: t) st n = some 0 := by
  rw [show stop (c :: t) st n = if (tk st n c.toNat).1 = true then (stop t (tk st n c.toNat).2.1 (tk st n c.toNat).2.2).map (· + 1) else some 0 from rfl, h]
  rfl
theorem stop_trans {t : List UInt8} {st n : Int} (h : badst st = false) (hh : ∀ c t', t = c :: t' → tk st n c.toNat = bg c.toNat) : stop t st n = stop0 t := by
  cases t with
  | nil => simp [stop, h]; rfl
  | cons c t =>
    have := hh c t rfl
    unfold stop0 stop
    rw [this, show tk 0 0 c.toNat = bg c.toNat from rfl]
theorem rowB_within (c : UInt8) : rowB c = withinN c.toNat := by
  unfold rowB withinN smallN digitN digB
  rfl
theorem w32 {n : Int} (h0 : 0 ≤ n) (h1 : n ≤ 32) : wrap64 (n + 1) = n + 1 := w64 (by omega) (by omega)
theorem stop_row : ∀ (t : List UInt8) (n : Nat), n ≤ 32 → stop t 3 (n : Int) = if n + (t.takeWhile rowB).length ≤ 32 then sh (t.takeWhile rowB).length (stop0 (t.drop (t.takeWhile rowB).length)) else some (32 - n)
  | [], n, h => by simp [stop, sh, badst, h]
  | c :: t, n, h => by
    by_cases hr : rowB c = true
    · rw [List.takeWhile_cons_of_pos hr]
      have ht : tk 3 (n : Int) c.toNat = (decide ((n : Int) + 1 ≤ 32), 3, (n : Int) + 1) := by
        unfold tk
        rw [if_neg (by decide), if_neg (by decide), if_neg (by decide), if_pos rfl, if_pos (by rw [← rowB_within]; exact hr), w32 (by omega) (by omega)]
      by_cases h2 : n + 1 ≤ 32
      · rw [stop_go (ht.trans (by rw [decide_eq_true (by omega)])), show (n : Int) + 1 = ((n + 1 : Nat) : Int) by omega, stop_row t (n + 1) h2]
        simp only [List.length_cons, List.drop_succ_cons]
        by_cases h3 : n + 1 + (t.takeWhile rowB).length ≤ 32
        · rw [if_pos h3, if_pos (by omega), sh_sh, Nat.add_comm 1]
        · rw [if_neg h3, if_neg (by omega)]
          simp [sh]; omega
      · rw [stop_no (ht.trans (by rw [decide_eq_false (by omega)])), if_neg (by simp; omega)]
        simp; omega
    · rw [List.takeWhile_cons_of_neg hr]
      rw [if_pos (by simpa using h)]
      simp only [List.length_nil, List.drop_zero, sh_zero]
      refine stop_trans rfl ?_
      intro c' t' e
      injection e with e1 e2
      subst e1
      unfold tk
      rw [if_neg (by decide), if_neg (by decide), if_neg (by decide), if_pos rfl, if_neg (by rw [← rowB_within]; exact hr)]
theorem digB_N (c : UInt8) : digB c = digitN c.toNat := rfl
theorem tkD_of {st n : Int} {c : Nat} (h : st = 4 ∨ st = 5 ∨ st = 6 ∨ st = 7 ∨ st = 8 ∨ st = 9) : tk st n c = tkD st n c := by
  unfold tk
  rw [if_neg (by omega), if_neg (by omega), if_neg (by omega), if_neg (by omega), if_neg (by omega), if_neg (by omega), if_neg (by omega)]
theorem dl_cons_pos {c : UInt8} {t : List UInt8} (h : digB c = true) : dl (c :: t) = dl t + 1 := by unfold dl; rw [List.takeWhile_cons_of_pos h]; rfl
theorem dl_cons_neg {c : UInt8} {t : List UInt8} (h : ¬ digB c = true) : dl (c :: t) = 0 := by unfold dl; rw [List.takeWhile_cons_of_neg h]; rfl
theorem stop_digits (st n : Int) (h : st = 4 ∨ st = 6 ∨ st = 9) : ∀ (t : List UInt8), stop t st n = sh (dl t) (stop (t.drop (dl t)) st n)
  | [] => by simp [dl, sh_zero]
  | c :: t => by
    by_cases hd : digB c = true
    · rw [dl_cons_pos hd, List.drop_succ_cons, stop_go (st' := st) (n' := n), stop_digits st n h t, sh_sh, Nat.add_comm 1]
      rw [tkD_of (by omega)]
      unfold tkD
      rw [if_pos (by rw [← digB_N]; exact hd), if_neg (by omega), if_neg (by omega)]
    · rw [dl_cons_neg hd, List.drop_zero, sh_zero]
theorem stop_need (st st2 n : Int) (h : st = 5 ∧ st2 = 6 ∨ st = 7 ∧ st2 = 9 ∨ st = 8 ∧ st2 = 9) (t : List UInt8) (h7 : st = 7 → t.head? ≠ some 45) :
    stop t st n = if dl t = 0 then some 0 else sh (dl t) (stop (t.drop (dl t)) st2 n) := by
  cases t with
  | nil =>
    have : badst st = true := by unfold badst; simp; omega
    simp [dl, stop, this]
  | cons c t =>
    by_cases hd : digB c = true
    · rw [dl_cons_pos hd, if_neg (by omega), List.drop_succ_cons, stop_go (st' := st2) (n' := n), stop_digits st2 n (by omega) t, sh_sh, Nat.add_comm 1]
      rw [tkD_of (by omega)]
      unfold tkD
      rw [if_pos (by rw [← digB_N]; exact hd)]
      rcases h with ⟨rfl, rfl⟩ | ⟨rfl, rfl⟩ | ⟨rfl, rfl⟩
      · rw [if_pos rfl]
      · rw [if_neg (by decide), if_pos (by decide)]
      · rw [if_neg (by decide), if_pos (by decide)]
    · rw [dl_cons_neg hd, if_pos rfl]
      refine stop_no (st' := st) (n' := n) ?_
      rw [tkD_of (by omega)]
      unfold tkD
      have hc : st = 7 → c.toNat ≠ 45 := by
        intro e e2
        refine h7 e ?_
        rw [List.head?_cons, show c = 45 from UInt8.toNat_inj.mp e2]
      rw [if_neg (by rw [← digB_N]; exact hd), if_neg (by omega), if_neg (by omega), if_neg (fun x => hc x.1 x.2), if_neg (by omega)]
def neOf : Option UInt8 → Bool
  | none => true
  | some c => !(smallN c.toNat) && !(c.toNat == 95)
theorem numEnd_drop (L : List UInt8) (n : Nat) : numEnd L n = neOf (L.drop n).head? := by
  unfold numEnd
  rw [List.head?_drop]
  rcases L[n]? with _ | c <;> rfl
theorem bg95 : bg 95 = (false, 0, 1) := by decide
theorem stop_behind (st n : Int) (h : st = 4 ∨ st = 6 ∨ st = 9) (L : List UInt8) (m : Nat) (hd : dl (L.drop m) = 0) (h4 : st = 4 → (L.drop m).head? ≠ some 46) (h6 : st = 6 → (L.drop m).head? ≠ some 101) :
    stop (L.drop m) st n = if numEnd L m = true then stop0 (L.drop m) else some 0 := by
  rw [numEnd_drop]
  generalize L.drop m = t at hd h4 h6 ⊢
  have hb : badst st = false := by unfold badst; simp; omega
  cases t with
  | nil => simp [stop, hb]; rfl
  | cons c t =>
    have hdc : ¬ digB c = true := fun e => by rw [dl_cons_pos e] at hd; omega
    have c46 : st = 4 → c.toNat ≠ 46 := fun e e2 => h4 e (by rw [List.head?_cons, show c = 46 from UInt8.toNat_inj.mp e2])
    have c101 : st = 6 → c.toNat ≠ 101 := fun e e2 => h6 e (by rw [List.head?_cons, show c = 101 from UInt8.toNat_inj.mp e2])
    have ht : tk st n c.toNat = if smallN c.toNat = true then (false, st, n) else bg c.toNat := by
      rw [tkD_of (by omega)]
      unfold tkD
      rw [if_neg (by rw [← digB_N]; exact hdc), if_neg (fun x => c46 x.1 x.2), if_neg (fun x => c101 x.1 x.2), if_neg (by omega), if_pos h]
    rw [List.head?_cons]
    by_cases h1 : smallN c.toNat = true
    · rw [if_pos h1] at ht
      rw [stop_no ht, if_neg (by simp [neOf, h1])]
    · rw [if_neg h1] at ht
      have h1' : smallN c.toNat = false := by simpa using h1
      by_cases h2 : c.toNat = 95
      · have ht2 : tk st n c.toNat = (false, 0, 1) := by rw [ht, h2, bg95]
        rw [stop_no ht2, if_neg (by simp [neOf, h2])]
      · rw [if_pos (by simp [neOf, h1', h2])]
        refine stop_trans hb ?_
        intro c' t' e
        injection e with e1 e2
        subst e1
        exact ht
theorem head_get (L : List UInt8) (n : Nat) : (L.drop n).head? = L[n]? := by rw [List.head?_drop]
theorem drop_head {L : List UInt8} {n : Nat} {c : UInt8} (h : L[n]? = some c) : L.drop n = c :: L.drop (n + 1) := by
  obtain ⟨hn, e⟩ := List.getElem?_eq_some_iff.1 h
  rw [List.drop_eq_getElem_cons hn, e]
theorem dl_drop_dl : ∀ (t : List UInt8), dl (t.drop (dl t)) = 0
  | [] => rfl
  | c :: t => by
    by_cases hd : digB c = true
    · rw [dl_cons_pos hd, List.drop_succ_cons]; exact dl_drop_dl t
    · rw [dl_cons_neg hd, List.drop_zero, dl_cons_neg hd]
def okStop (L : List UInt8) (m : Nat) (ok : Bool) : Option Nat := if ok = true then sh m (stop0 (L.drop m)) else some m
theorem sh_end (L : List UInt8) (m : Nat) (b : Bool) : sh m (if b = true then stop0 (L.drop m) else some 0) = okStop L m b := by
  cases b <;> simp [okStop, sh]
theorem stop_number (c : UInt8) (t : List UInt8) (hd : digB c = true) : stop0 (c :: t) = okStop (c :: t) (numF (c :: t)).1 (numF (c :: t)).2.2 := by
  have hs : ∀ L : List UInt8, smallN (c.toNat) = false := by
    intro _
    have := hd
    simp [digB] at this
    unfold smallN
    simp; omega
  have h0 : tk 0 0 c.toNat = (true, 4, 1) := by
    unfold tk
    rw [if_pos rfl]
    unfold bg
    rw [if_neg (by rw [hs []]; simp), if_pos (by rw [← digB_N]; exact hd)]
  have hA : stop0 (c :: t) = sh (dl (c :: t)) (stop ((c :: t).drop (dl (c :: t))) 4 1) := by
    rw [dl_cons_pos hd, List.drop_succ_cons]
    show stop (c :: t) 0 0 = _
    rw [stop_go h0, stop_digits 4 1 (.inl rfl) t, sh_sh, Nat.add_comm 1]
  rw [hA]
  generalize c :: t = L
  clear hA h0 hs
  unfold numF
  have hd0 := dl_drop_dl L
  by_cases hp : L[dl L]? = some 46
  · rw [if_pos hp]
    have e1 : stop (L.drop (dl L)) 4 1 = sh 1 (stop (L.drop (dl L + 1)) 5 1) := by
      rw [drop_head hp]
      exact stop_go (by decide)
    rw [e1, stop_need 5 6 1 (by omega) _ (by omega), sh_sh]
    by_cases hz : dl (L.drop (dl L + 1)) = 0
    · rw [if_pos hz, if_pos hz]
      simp [okStop, sh]
    · rw [if_neg hz, if_neg hz, List.drop_drop, sh_sh]
      have hd1 := dl_drop_dl (L.drop (dl L + 1))
      rw [List.drop_drop] at hd1
      have e0 : dl L + 1 + dl (L.drop (dl L + 1)) = dl L + (1 + dl (L.drop (dl L + 1))) := by omega
      rw [e0] at hd1 ⊢
      generalize dl L + (1 + dl (L.drop (dl L + 1))) = m at hd1 ⊢
      by_cases he : L[m]? = some 101
      · rw [if_pos he]
        have e2 : stop (L.drop m) 6 1 = sh 1 (stop (L.drop (m + 1)) 7 1) := by
          rw [drop_head he]
          exact stop_go (by decide)
        rw [e2, sh_sh]
        by_cases hm : L[m + 1]? = some 45
        · rw [if_pos hm]
          have e3 : stop (L.drop (m + 1)) 7 1 = sh 1 (stop (L.drop (m + 1 + 1)) 8 1) := by
            rw [drop_head hm]
            exact stop_go (by decide)
          rw [e3, sh_sh, stop_need 8 9 1 (by omega) _ (by omega)]
          by_cases hy : dl (L.drop (m + 1 + 1)) = 0
          · rw [if_pos hy, if_pos hy]
            simp [okStop, sh]
          · rw [if_neg hy, if_neg hy, List.drop_drop, sh_sh]
            have hd2 := dl_drop_dl (L.drop (m + 1 + 1))
            rw [List.drop_drop] at hd2
            rw [stop_behind 9 1 (by omega) L _ hd2 (by omega) (by omega), sh_end]
        · rw [if_neg hm, stop_need 7 9 1 (by omega) _ (fun _ => by rw [head_get]; exact hm)]
          by_cases hy : dl (L.drop (m + 1)) = 0
          · rw [if_pos hy, if_pos hy]
            simp [okStop, sh]
          · rw [if_neg hy, if_neg hy, List.drop_drop, sh_sh]
            have hd2 := dl_drop_dl (L.drop (m + 1))
            rw [List.drop_drop] at hd2
            rw [stop_behind 9 1 (by omega) L _ hd2 (by omega) (by omega), sh_end]
      · rw [if_neg he, stop_behind 6 1 (by omega) L m hd1 (by omega) (fun _ => by rw [head_get]; exact he), sh_end]
  · rw [if_neg hp, stop_behind 4 1 (by omega) L _ hd0 (fun _ => by rw [head_get]; exact hp) (by omega), sh_end]
theorem sh_ok (T : List UInt8) (a m : Nat) (ok : Bool) : sh a (okStop (T.drop a) m ok) = okStop T (a + m) ok := by
  cases ok
  · simp [okStop, sh]; omega
  · simp only [okStop, if_pos, sh_sh, List.drop_drop]
theorem sh_ok1 (c : UInt8) (T : List UInt8) (m : Nat) (ok : Bool) : sh 1 (okStop T m ok) = okStop (c :: T) (1 + m) ok := sh_ok (c :: T) 1 m ok
theorem tkT_of {st n : Int} {c : Nat} (h : st = 10 ∨ st = 11 ∨ st = 12 ∨ st = 13) : tk st n c = tkT st n c := by
  unfold tk
  rw [if_neg (by omega), if_neg (by omega), if_neg (by omega), if_neg (by omega), if_neg (by omega), if_neg (by omega), if_pos h]
theorem tk10 (n : Int) (c : Nat) : tk 10 n c = (decide (32 ≤ c), if c = 92 then 11 else if c = 34 then 0 else 10, n) := by rw [tkT_of (by omega)]; rfl
theorem tk11 (n : Int) (c : Nat) : tk 11 n c = (decide (c = 34 ∨ c = 92 ∨ c = 110 ∨ c = 120), if c = 120 then 12 else 10, n) := by rw [tkT_of (by omega)]; rfl
theorem tk12 (n : Int) (c : Nat) : tk 12 n c = (hexOk c, 13, n) := by rw [tkT_of (by omega)]; rfl
theorem tk13 (n : Int) (c : Nat) : tk 13 n c = (hexOk c, 10, n) := by rw [tkT_of (by omega)]; rfl
theorem stop_esc (n : Int) (T : List UInt8) : stop T 11 n = if (escP T).2.2 = true then sh (escP T).2.1.toNat (stop (T.drop (escP T).2.1.toNat) 10 n) else some (escP T).2.1.toNat := by
  have key : ∀ p : Int × Int × Bool, escP T = p → stop T 11 n = if p.2.2 = true then sh p.2.1.toNat (stop (T.drop p.2.1.toNat) 10 n) else some p.2.1.toNat := by
    intro p hp
    cases T with
    | nil => subst hp; rfl
    | cons e t =>
      simp only [escP] at hp
      by_cases h1 : e.toNat = 34 ∨ e.toNat = 92
      · rw [if_pos h1] at hp
        subst hp
        rw [stop_go (st' := 10) (n' := n) (by rw [tk11, decide_eq_true (by omega), if_neg (by omega)])]
        rfl
      · rw [if_neg h1] at hp
        by_cases h2 : e.toNat = 110
        · rw [if_pos h2] at hp
          subst hp
          rw [stop_go (st' := 10) (n' := n) (by rw [tk11, decide_eq_true (by omega), if_neg (by omega)])]
          rfl
        · rw [if_neg h2] at hp
          by_cases h3 : e.toNat = 120
          · rw [if_neg (by omega)] at hp
            rw [stop_go (st' := 12) (n' := n) (by rw [tk11, decide_eq_true (by omega), if_pos h3])]
            cases t with
            | nil => subst hp; rfl
            | cons g t1 =>
              simp only at hp
              rcases hg : hexV g.toNat with _ | a
              · rw [hg] at hp
                subst hp
                rw [stop_no (st' := 13) (n' := n) (by rw [tk12, hexOk, hg]; rfl)]
                rfl
              · rw [hg] at hp
                rw [stop_go (st' := 13) (n' := n) (by rw [tk12, hexOk, hg]; rfl)]
                cases t1 with
                | nil => subst hp; rfl
                | cons g2 t2 =>
                  simp only at hp
                  rcases hg2 : hexV g2.toNat with _ | b
                  · rw [hg2] at hp
                    subst hp
                    rw [stop_no (st' := 10) (n' := n) (by rw [tk13, hexOk, hg2]; rfl)]
                    rfl
                  · rw [hg2] at hp
                    subst hp
                    rw [stop_go (st' := 10) (n' := n) (by rw [tk13, hexOk, hg2]; rfl), sh_sh, sh_sh]
                    rfl
          · rw [if_pos h3] at hp
            subst hp
            rw [stop_no (st' := 10) (n' := n) (by rw [tk11, decide_eq_false (by omega), if_neg h3])]
            rfl
  exact key _ rfl
theorem stop_text (n : Int) : ∀ (N : Nat) (T : List UInt8) (out : List Int) (i : Nat), T.length ≤ N → i ≤ (qF T out i).2.1 ∧ (qF T out i).2.1 ≤ i + T.length ∧ stop T 10 n = okStop T ((qF T out i).2.1 - i) (qF T out i).2.2 := by
  intro N
  induction N with
  | zero =>
    intro T out i hN
    obtain rfl : T = [] := List.length_eq_zero_iff.1 (by omega)
    simp [qF, okStop, stop, badst]
  | succ N ih =>
    intro T out i hN
    cases T with
    | nil => simp [qF, okStop, stop, badst]
    | cons c T =>
      have hN' : T.length ≤ N := by simp at hN; omega
      by_cases h34 : c.toNat = 34
      · rw [qF_end h34]
        refine ⟨by simp, by simp, ?_⟩
        rw [stop_go (st' := 0) (n' := n) (by rw [tk10, decide_eq_true (by omega), if_neg (by omega), if_pos h34]), stop_n]
        simp only [okStop, if_pos, show i + 1 - i = 1 by omega, List.drop_succ_cons, List.drop_zero]
      by_cases h32 : c.toNat < 32
      · rw [qF_low h34 h32]
        refine ⟨by simp, by simp, ?_⟩
        rw [stop_no (st' := 10) (n' := n) (by rw [tk10, decide_eq_false (by omega), if_neg (by omega), if_neg h34])]
        simp [okStop]
      by_cases h92 : c.toNat = 92
      · rw [qF_esc h92]
        obtain ⟨he0, he1, he2⟩ := escP_len T
        have hE := stop_esc n T
        rw [stop_go (st' := 11) (n' := n) (by rw [tk10, decide_eq_true (by omega), if_pos h92]), hE]
        generalize escP T = p at he0 he1 he2
        obtain ⟨b, m, ok⟩ := p
        simp only [escK] at he0 he1 he2 ⊢
        generalize hm : m.toNat = M at he1
        cases ok with
        | false =>
          simp only [if_neg (show ¬ (false = true) by simp)]
          refine ⟨by omega, by simp; omega, ?_⟩
          simp [okStop, sh]; omega
        | true =>
          simp only [if_pos]
          have hl : (T.drop M).length = T.length - M := List.length_drop
          obtain ⟨j1, j2, j3⟩ := ih (T.drop M) (out ++ [b]) (i + 1 + M) (by omega)
          generalize qF (T.drop M) (out ++ [b]) (i + 1 + M) = q at j1 j2 j3
          refine ⟨by omega, by simp; omega, ?_⟩
          rw [j3, sh_ok, sh_ok1 c]
          congr 1; omega
      · rw [qF_plain h34 h32 h92]
        obtain ⟨j1, j2, j3⟩ := ih T (out ++ [(c.toNat : Int)]) (i + 1) hN'
        generalize qF T (out ++ [(c.toNat : Int)]) (i + 1) = q at j1 j2 j3
        refine ⟨by omega, by simp; omega, ?_⟩
        rw [stop_go (st' := 10) (n' := n) (by rw [tk10, decide_eq_true (by omega), if_neg h92, if_neg h34]), j3, sh_ok1 c]
        congr 1; omega
def cmpN (c : Nat) : Bool := decide (c = 60 ∨ c = 62 ∨ c = 61 ∨ c = 33)
def plainN (c : Nat) : Bool := decide (c = 91 ∨ c = 93 ∨ c = 40 ∨ c = 41 ∨ c = 44 ∨ c = 58 ∨ c = 35 ∨ c = 42 ∨ c = 43 ∨ c = 45 ∨ c = 47)
def mkF : List UInt8 → Int
  | [] => 0
  | c :: T => if cmpN c.toNat = true then (if T.head? = some 61 then 2 else if c.toNat = 33 then -1 else 1) else if plainN c.toNat = true then 1 else 0
theorem mkF_cons (c : UInt8) (T : List UInt8) : mkF (c :: T) = if cmpN c.toNat = true then (if T.head? = some 61 then 2 else if c.toNat = 33 then -1 else 1) else if plainN c.toNat = true then 1 else 0 := rfl
theorem ibA : ∀ c : Fin 256, (0 ≤ Lib.indexByte [60, 62, 61, 33] ((c.val : Int).toNat.toUInt8)) = (cmpN c.val = true) := by
  intro c
  have : ∀ c : Fin 256, decide (0 ≤ Lib.indexByte [60, 62, 61, 33] ((c.val : Int).toNat.toUInt8)) = cmpN c.val := by decide +kernel
  rw [← this c]; simp
theorem ibB : ∀ c : Fin 256, (0 ≤ Lib.indexByte [91, 93, 40, 41, 44, 58, 35, 42, 43, 45, 47] ((c.val : Int).toNat.toUInt8)) = (plainN c.val = true) := by
  intro c
  have : ∀ c : Fin 256, decide (0 ≤ Lib.indexByte [91, 93, 40, 41, 44, 58, 35, 42, 43, 45, 47] ((c.val : Int).toNat.toUInt8)) = plainN c.val := by decide +kernel
  rw [← this c]; simp
theorem ib_eq1 (c : Nat) (hc : c < 256) : ∃ v, strings_IndexByte.f (⟨#[60, 62, 61, 33]⟩ : ByteArray) (c : Int) = some v ∧ (0 ≤ v ↔ cmpN c = true) :=
  ⟨_, rfl, by have := ibA ⟨c, hc⟩; exact Iff.of_eq this⟩
theorem ib_eq2 (c : Nat) (hc : c < 256) : ∃ v, strings_IndexByte.f (⟨#[91, 93, 40, 41, 44, 58, 35, 42, 43, 45, 47]⟩ : ByteArray) (c : Int) = some v ∧ (0 ≤ v ↔ plainN c = true) :=
  ⟨_, rfl, by have := ibB ⟨c, hc⟩; exact Iff.of_eq this⟩
theorem mark_ev (s : ByteArray) (c : UInt8) (T : List UInt8) (hs : s.data.toList = c :: T) : Ev (fun k => tokens_mark.f k s) (mkF (c :: T)) := by
  have hl : s.size = T.length + 1 := by rw [← len_toList, hs]; rfl
  have b0 : bt s 0 = (c.toNat : Int) := bt_cons (n := 0) hs rfl
  unfold tokens_mark.f
  refine Ev.pos (by omega) ?_
  rw [b0]
  obtain ⟨v, hv, hv2⟩ := ib_eq1 c.toNat c.toNat_lt
  obtain ⟨u, hu, hu2⟩ := ib_eq2 c.toNat c.toNat_lt
  rw [hv, hu]
  refine Ev.bind (Ev.pure _) ?_
  rw [mkF_cons]
  by_cases h1 : cmpN c.toNat = true
  · rw [if_pos h1]
    refine Ev.pos (hv2.2 h1) ?_
    have j0 : ∀ b : Bool, (b = true ↔ T.head? = some 61) → Ev (fun k => tokens_mark.j0 k s b) (if T.head? = some 61 then 2 else if c.toNat = 33 then -1 else 1) := by
      intro b hb
      refine Ev.succ ?_
      simp only [tokens_mark.j0]
      by_cases h : b = true
      · rw [if_pos (hb.1 h)]; exact Ev.pos h (Ev.pure _)
      · rw [if_neg (fun e => h (hb.2 e))]
        refine Ev.neg h (Ev.pos (by omega) ?_)
        rw [b0]
        by_cases h33 : c.toNat = 33
        · rw [if_pos h33]; exact Ev.pos (by omega) (Ev.pure _)
        · rw [if_neg h33]; exact Ev.neg (by omega) (Ev.pure _)
    cases T with
    | nil => exact Ev.neg (by simp [hl]) (j0 false (by simp))
    | cons e t =>
      have b1 : bt s 1 = (e.toNat : Int) := bt_cons (n := 1) hs rfl
      have hl2 : s.size = t.length + 2 := by rw [hl]; rfl
      refine Ev.pos (by omega) (Ev.pos (by omega) (j0 _ ?_))
      rw [b1, List.head?_cons]
      constructor
      · intro h
        have h' : e.toNat = 61 := by
          have : (e.toNat : Int) = 61 := by simpa using h
          omega
        rw [show e = 61 from UInt8.toNat_inj.mp h']
      · intro h
        injection h with h
        subst h; rfl
  · rw [if_neg h1]
    refine Ev.neg (fun h => h1 (hv2.1 h)) (Ev.bind (Ev.pure _) ?_)
    by_cases h2 : plainN c.toNat = true
    · rw [if_pos h2]; exact Ev.pos (hu2.2 h2) (Ev.pure _)
    · rw [if_neg h2]; exact Ev.neg (fun h => h2 (hu2.1 h)) (Ev.pure _)
theorem mkF_len (c : UInt8) (T : List UInt8) : -1 ≤ mkF (c :: T) ∧ mkF (c :: T) ≤ T.length + 1 := by
  simp only [mkF_cons]
  split
  · split
    · rename_i h
      cases T with
      | nil => simp at h
      | cons e t => simp; omega
    · split <;> omega
  · split <;> omega
def mkStop (v : Int) (L : List UInt8) : Option Nat := if v < 1 then some (-v).toNat else sh v.toNat (stop0 (L.drop v.toNat))
theorem stop_mark (c : UInt8) (T : List UInt8) (h1 : smallN c.toNat = false) (h2 : digB c = false) (h3 : c.toNat ≠ 34) (h4 : blankN c.toNat = false) (h5 : ¬ (c.toNat = 47 ∧ T.head? = some 47)) :
    stop0 (c :: T) = mkStop (mkF (c :: T)) (c :: T) := by
  have ht : tk 0 0 c.toNat = if c.toNat = 47 then (true, 1, 1) else if c.toNat = 61 ∨ c.toNat = 60 ∨ c.toNat = 62 then (true, 14, 1) else if c.toNat = 33 then (true, 15, 1) else (singleN c.toNat, 0, 1) := by
    show bg c.toNat = _
    unfold bg
    rw [if_neg (by simp [h1]), if_neg (by rw [← digB_N]; simp [h2]), if_neg h3, h4, Bool.false_or]
  rw [mkF_cons]
  by_cases a : c.toNat = 47
  · rw [if_pos a] at ht
    rw [if_neg (show ¬ cmpN c.toNat = true by unfold cmpN; simp; omega), if_pos (show plainN c.toNat = true by unfold plainN; simp; omega)]
    show stop (c :: T) 0 0 = _
    rw [stop_go ht]
    have : stop T 1 1 = stop0 T := by
      refine stop_trans (by decide) ?_
      intro d t' e
      unfold tk
      rw [if_neg (by decide), if_pos rfl, if_neg]
      intro hd
      refine h5 ⟨a, ?_⟩
      rw [e, List.head?_cons, show d = 47 from UInt8.toNat_inj.mp hd]
    rw [this]; rfl
  rw [if_neg a] at ht
  by_cases b : c.toNat = 61 ∨ c.toNat = 60 ∨ c.toNat = 62
  · rw [if_pos b] at ht
    rw [if_pos (show cmpN c.toNat = true by unfold cmpN; simp; omega)]
    show stop (c :: T) 0 0 = _
    rw [stop_go ht]
    by_cases he : T.head? = some 61
    · rw [if_pos he]
      cases T with
      | nil => simp at he
      | cons e t =>
        simp only [List.head?_cons, Option.some.injEq] at he
        subst he
        rw [stop_go (st' := 0) (n' := 1) (by decide), stop_n, sh_sh]; rfl
    · rw [if_neg he, if_neg (show ¬ c.toNat = 33 by omega)]
      have : stop T 14 1 = stop0 T := by
        refine stop_trans (by decide) ?_
        intro d t' e
        unfold tk
        rw [if_neg (by decide), if_neg (by decide), if_neg (by decide), if_neg (by decide), if_pos rfl, if_neg]
        intro hd
        refine he ?_
        rw [e, List.head?_cons, show d = 61 from UInt8.toNat_inj.mp hd]
      rw [this]; rfl
  rw [if_neg b] at ht
  by_cases d : c.toNat = 33
  · rw [if_pos d] at ht
    rw [if_pos (show cmpN c.toNat = true by unfold cmpN; simp; omega)]
    show stop (c :: T) 0 0 = _
    rw [stop_go ht]
    by_cases he : T.head? = some 61
    · rw [if_pos he]
      cases T with
      | nil => simp at he
      | cons e t =>
        simp only [List.head?_cons, Option.some.injEq] at he
        subst he
        rw [stop_go (st' := 0) (n' := 1) (by decide), stop_n, sh_sh]; rfl
    · rw [if_neg he, if_pos d]
      cases T with
      | nil => rfl
      | cons e t =>
        have he' : e.toNat ≠ 61 := fun h => he (by rw [List.head?_cons, show e = 61 from UInt8.toNat_inj.mp h])
        rw [stop_no (st' := 0) (n' := 1) (by unfold tk; rw [if_neg (by decide), if_neg (by decide), if_neg (by decide), if_neg (by decide), if_neg (by decide), if_pos rfl, decide_eq_false he'])]
        rfl
  rw [if_neg d] at ht
  rw [if_neg (show ¬ cmpN c.toNat = true by unfold cmpN; simp; omega)]
  by_cases f : singleN c.toNat = true
  · rw [if_pos (show plainN c.toNat = true by unfold singleN at f; unfold plainN; simp at f ⊢; omega)]
    rw [f] at ht
    show stop (c :: T) 0 0 = _
    rw [stop_go ht, stop_n]; rfl
  · rw [if_neg (show ¬ plainN c.toNat = true by unfold singleN at f; unfold plainN; simp at f ⊢; omega)]
    rw [show singleN c.toNat = false by simpa using f] at ht
    show stop (c :: T) 0 0 = _
    rw [stop_no ht]; rfl
def rl (L : List UInt8) : Nat := (L.takeWhile rowB).length
def nxm : List UInt8 → Nat × Bool
  | [] => (0, false)
  | c :: T => if smallN c.toNat = true then (if 33 ≤ rl (c :: T) then (32, false) else (rl (c :: T), true))
    else if digB c = true then ((numF (c :: T)).1, (numF (c :: T)).2.2)
    else if c.toNat = 34 then (1 + (qF T [] 0).2.1, (qF T [] 0).2.2)
    else if mkF (c :: T) < 1 then ((-(mkF (c :: T))).toNat, false) else ((mkF (c :: T)).toNat, true)
theorem nxm_cons (c : UInt8) (T : List UInt8) : nxm (c :: T) = if smallN c.toNat = true then (if 33 ≤ rl (c :: T) then (32, false) else (rl (c :: T), true))
    else if digB c = true then ((numF (c :: T)).1, (numF (c :: T)).2.2)
    else if c.toNat = 34 then (1 + (qF T [] 0).2.1, (qF T [] 0).2.2)
    else if mkF (c :: T) < 1 then ((-(mkF (c :: T))).toNat, false) else ((mkF (c :: T)).toNat, true) := rfl
theorem small_row {c : UInt8} (h : smallN c.toNat = true) : rowB c = true := by rw [rowB_within]; unfold withinN; rw [h]; rfl
theorem stop_next (c : UInt8) (T : List UInt8) (h4 : blankN c.toNat = false) (h5 : ¬ (c.toNat = 47 ∧ T.head? = some 47)) :
    stop0 (c :: T) = okStop (c :: T) (nxm (c :: T)).1 (nxm (c :: T)).2 := by
  rw [nxm_cons]
  by_cases h1 : smallN c.toNat = true
  · rw [if_pos h1]
    have hb : tk 0 0 c.toNat = (true, 3, 1) := by
      show bg c.toNat = _
      unfold bg
      rw [if_pos h1]
    have hr : rl (c :: T) = (T.takeWhile rowB).length + 1 := by unfold rl; rw [List.takeWhile_cons_of_pos (small_row h1)]; rfl
    show stop (c :: T) 0 0 = _
    rw [stop_go hb, show (1 : Int) = ((1 : Nat) : Int) from rfl, stop_row T 1 (by omega), hr]
    by_cases h : 1 + (T.takeWhile rowB).length ≤ 32
    · rw [if_pos h, if_neg (by omega), sh_sh]
      simp only [okStop, if_pos, List.drop_succ_cons]
      rw [Nat.add_comm]
    · rw [if_neg h, if_pos (by omega)]
      rfl
  rw [if_neg h1]
  have h1' : smallN c.toNat = false := by simpa using h1
  by_cases h2 : digB c = true
  · rw [if_pos h2, stop_number c T h2]
  rw [if_neg h2]
  have h2' : digB c = false := by simpa using h2
  by_cases h3 : c.toNat = 34
  · rw [if_pos h3]
    have hb : tk 0 0 c.toNat = (true, 10, 1) := by
      show bg c.toNat = _
      unfold bg
      rw [if_neg h1, if_neg (by rw [← digB_N]; exact h2), if_pos h3]
    show stop (c :: T) 0 0 = _
    rw [stop_go hb, (stop_text 1 _ T [] 0 (Nat.le_refl _)).2.2, sh_ok1 c, Nat.sub_zero]
  rw [if_neg h3, stop_mark c T h1' h2' h3 h4 h5]
  unfold mkStop
  generalize mkF (c :: T) = v
  by_cases h : v < 1
  · rw [if_pos h, if_pos h]; rfl
  · rw [if_neg h, if_neg h]; rfl
def tokF (t : ByteArray) : List UInt8 → Int × ByteArray
  | [] => (0, ⟨#[]⟩)
  | c :: T => if smallN c.toNat = true then (if wordsL.contains ((c :: T).take (rl (c :: T))) = true then 2 else 1, t.extract 0 (nxm (c :: T)).1)
    else if digB c = true then (((numF (c :: T)).2.1 : Int), t.extract 0 (nxm (c :: T)).1)
    else if c.toNat = 34 then (5, strOfNums (qF T [] 0).1)
    else (6, t.extract 0 (nxm (c :: T)).1)
theorem tokF_cons (t : ByteArray) (c : UInt8) (T : List UInt8) : tokF t (c :: T) = if smallN c.toNat = true then (if wordsL.contains ((c :: T).take (rl (c :: T))) = true then 2 else 1, t.extract 0 (nxm (c :: T)).1)
    else if digB c = true then (((numF (c :: T)).2.1 : Int), t.extract 0 (nxm (c :: T)).1)
    else if c.toNat = 34 then (5, strOfNums (qF T [] 0).1)
    else (6, t.extract 0 (nxm (c :: T)).1) := rfl
def nextR (t : ByteArray) (L : List UInt8) : (Int × ByteArray × Nat) ⊕ Nat := if (nxm L).2 = true then .inl ((tokF t L).1, (tokF t L).2, (nxm L).1) else .inr (nxm L).1
theorem extract_take (t : ByteArray) (n : Nat) : (t.extract 0 n).data.toList = t.data.toList.take n := by
  simp [ByteArray.data_extract]
theorem next_ev (t : ByteArray) (c : UInt8) (T : List UInt8) (ht : t.data.toList = c :: T) (hsz : t.size ≤ 70000) : Ev (fun k => tokens_next k t) (nextR t (c :: T)) := by
  have hl : t.size = T.length + 1 := by rw [← len_toList, ht]; rfl
  have b0 : bt t 0 = (c.toNat : Int) := bt_cons (n := 0) ht rfl
  have hr : rowN t = rl (c :: T) := by unfold rowN rl; rw [ht]
  unfold tokens_next
  rw [b0, hr, ht]
  unfold nextR
  rw [tokF_cons, nxm_cons]
  by_cases h1 : smallN c.toNat = true
  · have h1' : 97 ≤ c.toNat ∧ c.toNat ≤ 122 := by unfold smallN at h1; simpa using h1
    simp only [if_pos h1]
    refine Ev.pos (by omega) ?_
    by_cases h : 33 ≤ rl (c :: T)
    · simp only [if_pos h]
      exact Ev.const (by simp)
    · simp only [if_neg h]
      refine Ev.bind (Ev.const (word_eq _)) (Ev.const ?_)
      rw [extract_take, ht]
      simp only [if_pos]
  simp only [if_neg h1]
  have h1' : ¬ (97 ≤ (c.toNat : Int) ∧ (c.toNat : Int) ≤ 122) := by
    intro h
    refine h1 ?_
    unfold smallN; simp; omega
  refine Ev.neg h1' ?_
  by_cases h2 : digB c = true
  · have h2' : 48 ≤ c.toNat ∧ c.toNat ≤ 57 := by unfold digB at h2; simpa using h2
    simp only [if_pos h2]
    refine Ev.pos (by omega) ?_
    by_cases h : (numF (c :: T)).2.2 = true
    · simp only [if_pos h]; exact Ev.pure _
    · simp only [if_neg h]; exact Ev.pure _
  simp only [if_neg h2]
  have h2' : ¬ (48 ≤ (c.toNat : Int) ∧ (c.toNat : Int) ≤ 57) := by
    intro h
    refine h2 ?_
    unfold digB; simp; omega
  refine Ev.neg h2' ?_
  by_cases h3 : c.toNat = 34
  · simp only [if_pos h3]
    refine Ev.pos (by omega) ?_
    have he : (t.extract 1 t.size).data.toList = T := by rw [tail_toList, ht]; rfl
    have hz : (t.extract 1 t.size).size = T.length := by rw [← len_toList, he]
    have hq := quoted_ev (t.extract 1 t.size) (by omega) T.length T 0 [] (Nat.le_refl _) (by rw [List.drop_zero, he]) (Nat.zero_le _) (by simp)
    obtain ⟨j1, j2, j3⟩ := stop_text 1 _ T [] 0 (Nat.le_refl _)
    refine Ev.bind (F := fun k => tokens_quoted.f k (t.extract 1 t.size)) hq ?_
    simp only [qR]
    generalize qF T [] 0 = q at j1 j2
    refine Ev.pos (by omega) ?_
    simp only [Int.toNat_natCast]
    by_cases h : q.2.2 = true
    · simp only [if_pos h]; exact Ev.pos h (Ev.pure _)
    · simp only [if_neg h]; exact Ev.neg h (Ev.pure _)
  simp only [if_neg h3]
  refine Ev.neg (by omega) ?_
  obtain ⟨m1, m2⟩ := mkF_len c T
  refine Ev.bind (mark_ev t c T ht) ?_
  generalize mkF (c :: T) = v at m1 m2
  by_cases h : v < 1
  · simp only [if_pos h]
    exact Ev.pos (by omega) (Ev.const (by simp))
  · simp only [if_neg h]
    exact Ev.pos (by omega) (Ev.const (by simp))
theorem bg_blank {c : Nat} (h : blankN c = true) : bg c = (true, 0, 1) := by
  have h' : c = 32 ∨ c = 9 ∨ c = 10 ∨ c = 13 := by unfold blankN at h; simp at h; omega
  rcases h' with rfl | rfl | rfl | rfl <;> decide
theorem blank_isBlank (c : UInt8) (h : ¬ c.toNat = 10) : isBlank c = blankN c.toNat := by
  unfold isBlank blankN
  simp [h]
  rfl
def pos : List UInt8 → Nat → Nat → Nat × Nat
  | [], l, col => (l, col)
  | c :: t, l, col => if c.toNat = 10 then pos t (l + 1) 1 else pos t l (col + 1)
theorem pos_append : ∀ (A B : List UInt8) (l col : Nat), pos (A ++ B) l col = pos B (pos A l col).1 (pos A l col).2
  | [], _, _, _ => rfl
  | c :: t, B, l, col => by
    simp only [List.cons_append, pos]
    split
    · exact pos_append t B _ _
    · exact pos_append t B _ _
def BlkP (L : List UInt8) (rem : Bool) (a l h : Nat) (n : Int) (r : Nat × Nat × Nat) : Prop :=
  a ≤ r.1 ∧ r.1 ≤ a + L.length ∧ r.2.2 ≤ r.1 ∧ stop L (if rem = true then 2 else 0) n = sh (r.1 - a) (stop0 (L.drop (r.1 - a))) ∧
  pos (L.take (r.1 - a)) l (a - h + 1) = (r.2.1, r.1 - r.2.2 + 1) ∧
  (r.1 < a + L.length → ∃ c T, L.drop (r.1 - a) = c :: T ∧ blankN c.toNat = false ∧ ¬ (c.toNat = 47 ∧ T.head? = some 47))
theorem stop_blk : ∀ (L : List UInt8) (rem : Bool) (a l h : Nat) (n : Int), h ≤ a → BlkP L rem a l h n (blk rem L a l h)
  | [], rem, a, l, h, n, hh => by
    refine ⟨by simp [blk], by simp [blk], by simpa [blk] using hh, ?_, by simp [blk, pos], by simp [blk]⟩
    cases rem <;> simp [blk, stop, badst, sh]
  | c :: t, rem, a, l, h, n, hh => by
    have step : ∀ (r2 : Bool) (l2 h2 : Nat) (n2 : Int), h2 ≤ a + 1 → blk rem (c :: t) a l h = blk r2 t (a + 1) l2 h2 →
        stop (c :: t) (if rem = true then 2 else 0) n = sh 1 (stop t (if r2 = true then 2 else 0) n2) →
        (∀ T, pos (c :: T) l (a - h + 1) = pos T l2 (a + 1 - h2 + 1)) → BlkP (c :: t) rem a l h n (blk rem (c :: t) a l h) := by
      intro r2 l2 h2 n2 hh2 e1 e2 e3
      obtain ⟨i1, i2, i3, i4, i5, i6⟩ := stop_blk t r2 (a + 1) l2 h2 n2 hh2
      rw [e1]
      unfold BlkP
      rw [e2]
      generalize blk r2 t (a + 1) l2 h2 = r at i1 i2 i3 i4 i5 i6
      have hk : r.1 - a = (r.1 - (a + 1)) + 1 := by omega
      rw [hk, List.drop_succ_cons, List.take_succ_cons, e3, i4, sh_sh, Nat.add_comm 1]
      simp only [List.length_cons]
      exact ⟨by omega, by omega, i3, by trivial, i5, fun hlt => i6 (by omega)⟩
    by_cases h10 : c.toNat = 10
    · refine step false (l + 1) (a + 1) (if rem = true then n else 1) (Nat.le_refl _) (by simp [blk, h10]) ?_ (fun T => ?_)
      · cases rem
        · exact stop_go (by rw [show ((if (false : Bool) = true then (2 : Int) else 0)) = 0 from rfl]; show bg c.toNat = _; rw [bg_blank (by rw [h10]; decide)]; rfl)
        · exact stop_go (by rw [h10]; rfl)
      · simp only [pos, if_pos h10]
        congr 1; omega
    by_cases hr : rem = true
    · subst hr
      refine step true l h n (by omega) (by simp [blk, h10]) ?_ (fun T => ?_)
      · refine stop_go ?_
        unfold tk
        simp [h10]
      · simp only [pos, if_neg h10]
        congr 1; omega
    have hr' : rem = false := by simpa using hr
    subst hr'
    have hib := blank_isBlank c h10
    by_cases hb : isBlank c = true
    · refine step false l h 1 (by omega) (by simp [blk, h10, hb]) ?_ (fun T => ?_)
      · refine stop_go ?_
        show bg c.toNat = _
        rw [bg_blank (by rw [← hib]; exact hb)]
        rfl
      · simp only [pos, if_neg h10]
        congr 1; omega
    have hb' : isBlank c = false := by simpa using hb
    by_cases hs : c.toNat = 47 ∧ t.head? = some 47
    · refine step true l h 1 (by omega) (by simp [blk, h10, hb', hs]) ?_ (fun T => ?_)
      · obtain ⟨hc, ht⟩ := hs
        rw [stop_go (st' := 1) (n' := 1) (by rw [hc]; rfl)]
        cases t with
        | nil => simp at ht
        | cons d t' =>
          simp only [List.head?_cons, Option.some.injEq] at ht
          subst ht
          rw [stop_go (st' := 2) (n' := 1) (by decide), if_pos rfl, stop_go (st' := 2) (n' := 1) (by decide)]
      · simp only [pos, if_neg h10]
        congr 1; omega
    · have e : blk false (c :: t) a l h = (a, l, h) := by
        unfold blk
        rw [if_neg h10, if_neg (by simp), if_neg hb, if_neg hs]
      rw [e]
      unfold BlkP
      simp only [Nat.sub_self, List.drop_zero, List.take_zero, sh_zero, pos]
      refine ⟨Nat.le_refl _, by omega, hh, ?_, by trivial, fun _ => ⟨c, t, rfl, by rw [← hib]; exact hb', hs⟩⟩
      exact stop_n _ _
def noNl (L : List UInt8) : Prop := ∀ c ∈ L, c.toNat ≠ 10
theorem noNl_nil : noNl [] := by intro c h; cases h
theorem noNl_append {A B : List UInt8} (h : noNl A) (g : noNl B) : noNl (A ++ B) := by
  intro c hc
  rcases List.mem_append.1 hc with x | x
  · exact h c x
  · exact g c x
theorem noNl_cons {c : UInt8} {A : List UInt8} (h : c.toNat ≠ 10) (g : noNl A) : noNl (c :: A) := by
  intro d hd
  rcases List.mem_cons.1 hd with rfl | x
  · exact h
  · exact g d x
theorem pos_noNl : ∀ (A : List UInt8) (l col : Nat), noNl A → pos A l col = (l, col + A.length)
  | [], l, col, _ => rfl
  | c :: t, l, col, h => by
    rw [pos, if_neg (h c (List.mem_cons_self ..)), pos_noNl t l (col + 1) (fun d hd => h d (List.mem_cons_of_mem _ hd))]
    simp only [List.length_cons]
    congr 1; omega
theorem take_add' (L : List UInt8) (a b : Nat) : L.take (a + b) = L.take a ++ (L.drop a).take b := List.take_add
theorem noNl_add {L : List UInt8} {a b : Nat} (h : noNl (L.take a)) (g : noNl ((L.drop a).take b)) : noNl (L.take (a + b)) := by rw [take_add']; exact noNl_append h g
theorem noNl_one {L : List UInt8} {n : Nat} {c : UInt8} (h : L[n]? = some c) (hc : c.toNat ≠ 10) : noNl ((L.drop n).take 1) := by
  rw [drop_head h]
  exact noNl_cons hc noNl_nil
theorem noNl_take_while (p : UInt8 → Bool) (hp : ∀ c, p c = true → c.toNat ≠ 10) : ∀ (L : List UInt8) (n : Nat), n ≤ (L.takeWhile p).length → noNl (L.take n)
  | [], n, _ => by simp [noNl_nil]
  | c :: t, n, h => by
    by_cases hc : p c = true
    · rw [List.takeWhile_cons_of_pos hc] at h
      cases n with
      | zero => exact noNl_nil
      | succ n =>
        rw [List.take_succ_cons]
        exact noNl_cons (hp c hc) (noNl_take_while p hp t n (by simpa using h))
    · rw [List.takeWhile_cons_of_neg hc] at h
      have : n = 0 := by simpa using h
      subst this
      exact noNl_nil
theorem dig_nl (c : UInt8) (h : digB c = true) : c.toNat ≠ 10 := by unfold digB at h; simp at h; omega
theorem noNl_dl (L : List UInt8) : noNl (L.take (dl L)) := noNl_take_while digB dig_nl L _ (Nat.le_refl _)
theorem row_nl (c : UInt8) (h : rowB c = true) : c.toNat ≠ 10 := by rw [rowB_within] at h; unfold withinN smallN digitN at h; simp at h; omega
theorem num_len (L : List UInt8) : noNl (L.take (numF L).1) ∧ dl L ≤ (numF L).1 ∧ (numF L).1 ≤ L.length := by
  unfold numF
  have h0 := noNl_dl L
  have l0 := dl_le L
  by_cases hp : L[dl L]? = some 46
  · rw [if_pos hp]
    have hlt := at_lt hp
    have h1 : noNl (L.take (dl L + 1)) := noNl_add h0 (noNl_one hp (by decide))
    have l1 := dl_drop_le L (dl L + 1) (by omega)
    by_cases hz : dl (L.drop (dl L + 1)) = 0
    · rw [if_pos hz]
      exact ⟨h1, by simp, by simp; omega⟩
    · rw [if_neg hz]
      have h2 : noNl (L.take (dl L + (1 + dl (L.drop (dl L + 1))))) := by
        rw [← Nat.add_assoc]
        exact noNl_add h1 (noNl_dl _)
      have l2 : dl L + (1 + dl (L.drop (dl L + 1))) ≤ L.length := by omega
      have g0 : dl L ≤ dl L + (1 + dl (L.drop (dl L + 1))) := by omega
      generalize dl L + (1 + dl (L.drop (dl L + 1))) = m at h2 l2 g0
      by_cases he : L[m]? = some 101
      · rw [if_pos he]
        have hlt2 := at_lt he
        have h3 : noNl (L.take (m + 1)) := noNl_add h2 (noNl_one he (by decide))
        by_cases hm : L[m + 1]? = some 45
        · rw [if_pos hm]
          have hlt3 := at_lt hm
          have h4 : noNl (L.take (m + 1 + 1)) := noNl_add h3 (noNl_one hm (by decide))
          have l4 := dl_drop_le L (m + 1 + 1) (by omega)
          by_cases hy : dl (L.drop (m + 1 + 1)) = 0
          · rw [if_pos hy]
            exact ⟨h4, by simp only; omega, by simp only; omega⟩
          · rw [if_neg hy]
            exact ⟨noNl_add h4 (noNl_dl _), by simp only; omega, by simp only; omega⟩
        · rw [if_neg hm]
          have l4 := dl_drop_le L (m + 1) (by omega)
          by_cases hy : dl (L.drop (m + 1)) = 0
          · rw [if_pos hy]
            exact ⟨h3, by simp only; omega, by simp only; omega⟩
          · rw [if_neg hy]
            exact ⟨noNl_add h3 (noNl_dl _), by simp only; omega, by simp only; omega⟩
      · rw [if_neg he]
        exact ⟨h2, g0, l2⟩
  · rw [if_neg hp]
    exact ⟨h0, Nat.le_refl _, l0⟩
theorem hex_nl {c : UInt8} {a : Nat} (h : hexV c.toNat = some a) : c.toNat ≠ 10 := by
  intro e
  rw [e] at h
  cases h
theorem noNl_esc (T : List UInt8) : noNl (T.take (escP T).2.1.toNat) := by
  have key : ∀ p : Int × Int × Bool, escP T = p → noNl (T.take p.2.1.toNat) := by
    intro p hp
    cases T with
    | nil => simp [noNl_nil]
    | cons e t =>
      simp only [escP] at hp
      by_cases h1 : e.toNat = 34 ∨ e.toNat = 92
      · rw [if_pos h1] at hp
        subst hp
        exact noNl_cons (by omega) noNl_nil
      · rw [if_neg h1] at hp
        by_cases h2 : e.toNat = 110
        · rw [if_pos h2] at hp
          subst hp
          exact noNl_cons (by omega) noNl_nil
        · rw [if_neg h2] at hp
          by_cases h3 : e.toNat = 120
          · rw [if_neg (by omega)] at hp
            cases t with
            | nil => subst hp; exact noNl_cons (by omega) noNl_nil
            | cons g t1 =>
              simp only at hp
              rcases hg : hexV g.toNat with _ | a
              · rw [hg] at hp
                subst hp
                exact noNl_cons (by omega) noNl_nil
              · rw [hg] at hp
                cases t1 with
                | nil => subst hp; exact noNl_cons (by omega) (noNl_cons (hex_nl hg) noNl_nil)
                | cons g2 t2 =>
                  simp only at hp
                  rcases hg2 : hexV g2.toNat with _ | b
                  · rw [hg2] at hp
                    subst hp
                    exact noNl_cons (by omega) (noNl_cons (hex_nl hg) noNl_nil)
                  · rw [hg2] at hp
                    subst hp
                    exact noNl_cons (by omega) (noNl_cons (hex_nl hg) (noNl_cons (hex_nl hg2) noNl_nil))
          · rw [if_pos h3] at hp
            subst hp
            exact noNl_nil
  exact key _ rfl
theorem noNl_text : ∀ (N : Nat) (T : List UInt8) (out : List Int) (i : Nat), T.length ≤ N → noNl (T.take ((qF T out i).2.1 - i)) := by
  intro N
  induction N with
  | zero =>
    intro T out i hN
    obtain rfl : T = [] := List.length_eq_zero_iff.1 (by omega)
    simp [noNl_nil]
  | succ N ih =>
    intro T out i hN
    cases T with
    | nil => simp [noNl_nil]
    | cons c T =>
      have hN' : T.length ≤ N := by simp at hN; omega
      by_cases h34 : c.toNat = 34
      · rw [qF_end h34]
        simp only [show i + 1 - i = 1 by omega]
        exact noNl_cons (by omega) noNl_nil
      by_cases h32 : c.toNat < 32
      · rw [qF_low h34 h32]
        simp [noNl_nil]
      by_cases h92 : c.toNat = 92
      · rw [qF_esc h92]
        obtain ⟨he0, he1, he2⟩ := escP_len T
        have hE := noNl_esc T
        generalize escP T = p at he0 he1 he2 hE
        obtain ⟨b, m, ok⟩ := p
        simp only [escK] at he0 he1 he2 hE ⊢
        generalize m.toNat = M at he1 hE
        cases ok with
        | false =>
          simp only [if_neg (show ¬ (false = true) by simp), show i + 1 + M - i = M + 1 by omega, List.take_succ_cons]
          exact noNl_cons (by omega) hE
        | true =>
          simp only [if_pos]
          have hl : (T.drop M).length = T.length - M := List.length_drop
          have j := ih (T.drop M) (out ++ [b]) (i + 1 + M) (by omega)
          obtain ⟨j1, j2, _⟩ := stop_text 0 _ (T.drop M) (out ++ [b]) (i + 1 + M) (Nat.le_refl _)
          generalize qF (T.drop M) (out ++ [b]) (i + 1 + M) = q at j j1 j2
          rw [show q.2.1 - i = (M + (q.2.1 - (i + 1 + M))) + 1 by omega, List.take_succ_cons]
          exact noNl_cons (by omega) (noNl_add hE j)
      · rw [qF_plain h34 h32 h92]
        have j := ih T (out ++ [(c.toNat : Int)]) (i + 1) hN'
        obtain ⟨j1, j2, _⟩ := stop_text 0 _ T (out ++ [(c.toNat : Int)]) (i + 1) (Nat.le_refl _)
        generalize qF T (out ++ [(c.toNat : Int)]) (i + 1) = q at j j1 j2
        rw [show q.2.1 - i = (q.2.1 - (i + 1)) + 1 by omega, List.take_succ_cons]
        exact noNl_cons (by omega) j
theorem nxm_len (c : UInt8) (T : List UInt8) (h4 : blankN c.toNat = false) : noNl ((c :: T).take (nxm (c :: T)).1) ∧ (nxm (c :: T)).1 ≤ T.length + 1 ∧ ((nxm (c :: T)).2 = true → 1 ≤ (nxm (c :: T)).1) := by
  have hc : c.toNat ≠ 10 := by intro e; rw [e] at h4; cases h4
  rw [nxm_cons]
  by_cases h1 : smallN c.toNat = true
  · rw [if_pos h1]
    have hl : rl (c :: T) ≤ T.length + 1 := (List.takeWhile_sublist _).length_le
    have hp : 1 ≤ rl (c :: T) := by unfold rl; rw [List.takeWhile_cons_of_pos (small_row h1)]; simp
    by_cases h : 33 ≤ rl (c :: T)
    · rw [if_pos h]
      exact ⟨noNl_take_while rowB row_nl _ _ (by show 32 ≤ rl (c :: T); omega), by simp only; omega, fun e => by cases e⟩
    · rw [if_neg h]
      exact ⟨noNl_take_while rowB row_nl _ _ (Nat.le_refl _), hl, fun _ => hp⟩
  rw [if_neg h1]
  by_cases h2 : digB c = true
  · rw [if_pos h2]
    obtain ⟨n1, n2, n3⟩ := num_len (c :: T)
    rw [dl_cons_pos h2] at n2
    exact ⟨n1, n3, fun _ => by simp only; omega⟩
  rw [if_neg h2]
  by_cases h3 : c.toNat = 34
  · rw [if_pos h3]
    have j := noNl_text _ T [] 0 (Nat.le_refl _)
    obtain ⟨j1, j2, _⟩ := stop_text 0 _ T [] 0 (Nat.le_refl _)
    refine ⟨?_, by simp only; omega, fun _ => by simp only; omega⟩
    simp only [Nat.add_comm 1, List.take_succ_cons]
    exact noNl_cons hc (by simpa using j)
  rw [if_neg h3]
  obtain ⟨m1, m2⟩ := mkF_len c T
  have hm : noNl ((c :: T).take (mkF (c :: T)).toNat) := by
    rw [mkF_cons]
    have one : noNl ((c :: T).take 1) := noNl_cons hc noNl_nil
    split
    · split
      · rename_i _ h
        cases T with
        | nil => simp at h
        | cons e t =>
          simp only [List.head?_cons, Option.some.injEq] at h
          subst h
          exact noNl_cons hc (noNl_cons (by decide) noNl_nil)
      · split
        · exact noNl_nil
        · exact one
    · split
      · exact one
      · exact noNl_nil
  by_cases h : mkF (c :: T) < 1
  · rw [if_pos h]
    refine ⟨?_, by simp only; omega, fun e => by cases e⟩
    have : (-(mkF (c :: T))).toNat = 0 ∨ (-(mkF (c :: T))).toNat = 1 := by omega
    rcases this with e | e
    · simp only [e]; exact noNl_nil
    · simp only [e]; exact noNl_cons hc noNl_nil
  · rw [if_neg h]
    exact ⟨hm, by simp only; omega, fun _ => by simp only; omega⟩
theorem tk_nat {i : Nat} (h : i ≤ 4611686018427387904) : wrap64 ((i : Int) + 1) = ((i + 1 : Nat) : Int) := by rw [w64 (by omega) (by omega)]; omega
theorem drop_cons {s : ByteArray} {i : Nat} (h : i < s.size) : ∃ c T, s.data.toList.drop i = c :: T ∧ s.data.toList.drop (i + 1) = T ∧ s.data.toList[i]? = some c ∧ bt s (i : Int) = (c.toNat : Int) := by
  have hi : i < s.data.toList.length := by rw [len_toList]; exact h
  refine ⟨s.data.toList[i], s.data.toList.drop (i + 1), List.drop_eq_getElem_cons hi, rfl, List.getElem?_eq_getElem hi, bt_of (List.getElem?_eq_getElem hi)⟩
theorem drop_nil {s : ByteArray} {i : Nat} (h : ¬ i < s.size) : s.data.toList.drop i = [] := List.drop_eq_nil_of_le (by rw [len_toList]; omega)
theorem numF_kind (L : List UInt8) : (numF L).2.1 = 3 ∨ (numF L).2.1 = 4 := by
  unfold numF
  repeat' split
  all_goals simp
def toksF (s : ByteArray) : Nat → Nat → Nat → Nat → List S37
  | 0, _, _, _ => []
  | f + 1, a, l, h =>
    if (blk false (s.data.toList.drop a) a l h).1 = s.size then [⟨7, ⟨#[]⟩, ((blk false (s.data.toList.drop a) a l h).2.1 : Int), (((blk false (s.data.toList.drop a) a l h).1 : Nat) : Int) - ((blk false (s.data.toList.drop a) a l h).2.2 : Nat) + 1⟩]
    else ⟨(tokF (s.extract (blk false (s.data.toList.drop a) a l h).1 s.size) (s.data.toList.drop (blk false (s.data.toList.drop a) a l h).1)).1, (tokF (s.extract (blk false (s.data.toList.drop a) a l h).1 s.size) (s.data.toList.drop (blk false (s.data.toList.drop a) a l h).1)).2, ((blk false (s.data.toList.drop a) a l h).2.1 : Int), (((blk false (s.data.toList.drop a) a l h).1 : Nat) : Int) - ((blk false (s.data.toList.drop a) a l h).2.2 : Nat) + 1⟩ ::
      toksF s f ((blk false (s.data.toList.drop a) a l h).1 + (nxm (s.data.toList.drop (blk false (s.data.toList.drop a) a l h).1)).1) (blk false (s.data.toList.drop a) a l h).2.1 (blk false (s.data.toList.drop a) a l h).2.2
theorem scan_good (s : ByteArray) (hs : s.size ≤ 65536) : ∀ (f a l h : Nat) (out : List S37), a ≤ s.size → h ≤ a → s.size < a + f → stop0 (s.data.toList.drop a) = none →
    Ev (fun k => scanL k s f a l h out) (out ++ toksF s f a l h, 0, 0, 0) := by
  intro f
  induction f with
  | zero => intro a l h out ha hh hf; omega
  | succ f ih =>
    intro a l h out ha hh hf hst
    have hlen : (s.data.toList.drop a).length = s.size - a := by rw [List.length_drop, len_toList]
    obtain ⟨b1, b2, b3, b4, b5, b6⟩ := stop_blk (s.data.toList.drop a) false a l h 0 hh
    unfold scanL toksF
    generalize blk false (s.data.toList.drop a) a l h = b at b1 b2 b3 b4 b5 b6
    obtain ⟨a1, l1, h1⟩ := b
    simp only at b1 b2 b3 b4 b5 b6 ⊢
    rw [hlen] at b2 b6
    by_cases he : a1 = s.size
    · rw [if_pos he]
      exact Ev.pos he (Ev.pure _)
    rw [if_neg he]
    refine Ev.neg he ?_
    have hlt2 : a1 < a + (s.size - a) := by clear b6 b5 b4 hst ih; omega
    obtain ⟨c, T, d1, d2, d3⟩ := b6 hlt2
    clear b6
    rw [List.drop_drop, show a + (a1 - a) = a1 by omega] at d1 b4
    have hz : T.length + 1 = s.size - a1 := by
      have := congrArg List.length d1
      rw [List.length_drop, len_toList, List.length_cons] at this
      omega
    have hst1 : stop0 (c :: T) = none := by
      have b4' : stop0 (s.data.toList.drop a) = sh (a1 - a) (stop0 (s.data.toList.drop a1)) := b4
      rw [hst, d1] at b4'
      cases hh : stop0 (c :: T) with
      | none => rfl
      | some p => rw [hh] at b4'; cases b4'
    rw [stop_next c T d2 d3] at hst1
    obtain ⟨n1, n2, n3⟩ := nxm_len c T d2
    have hok : (nxm (c :: T)).2 = true := by
      cases hh : (nxm (c :: T)).2 with
      | true => rfl
      | false => rw [hh] at hst1; cases hst1
    rw [d1]
    have hN := next_ev (s.extract a1 s.size) c T (by rw [tail_toList, d1]) (by have : (s.extract a1 s.size).size = s.size - a1 := size_extract_end s a1; omega)
    unfold nextR at hN
    rw [if_pos hok] at hN
    refine Ev.bind hN ?_
    simp only
    refine Ev.pos (by omega) ?_
    have hm := n3 hok
    refine (ih _ _ _ _ (by omega) (by omega) (by omega) ?_).val ?_
    · rw [hok] at hst1
      simp only [okStop, if_pos] at hst1
      rw [← d1, List.drop_drop] at hst1
      cases hh : stop0 (s.data.toList.drop (a1 + (nxm (c :: T)).1)) with
      | none => rfl
      | some p => rw [← d1] at hh; rw [hh] at hst1; cases hst1
    · simp
theorem scan_bad (s : ByteArray) (hs : s.size ≤ 65536) : ∀ (f a l h : Nat) (out : List S37) (p : Nat), a ≤ s.size → h ≤ a → s.size < a + f → stop0 (s.data.toList.drop a) = some p →
    Ev (fun k => scanL k s f a l h out) ([], 50, ((pos ((s.data.toList.drop a).take p) l (a - h + 1)).1 : Int), ((pos ((s.data.toList.drop a).take p) l (a - h + 1)).2 : Int)) := by
  intro f
  induction f with
  | zero => intro a l h out p ha hh hf; omega
  | succ f ih =>
    intro a l h out p ha hh hf hst
    have hlen : (s.data.toList.drop a).length = s.size - a := by rw [List.length_drop, len_toList]
    obtain ⟨b1, b2, b3, b4, b5, b6⟩ := stop_blk (s.data.toList.drop a) false a l h 0 hh
    unfold scanL
    generalize blk false (s.data.toList.drop a) a l h = b at b1 b2 b3 b4 b5 b6
    obtain ⟨a1, l1, h1⟩ := b
    simp only at b1 b2 b3 b4 b5 b6 ⊢
    rw [hlen] at b2 b6
    have b4' : stop0 (s.data.toList.drop a) = sh (a1 - a) (stop0 (s.data.toList.drop a1)) := by
      have := b4
      rw [List.drop_drop, show a + (a1 - a) = a1 by clear b6; omega] at this
      exact this
    clear b4
    by_cases he : a1 = s.size
    · rw [he, hst, drop_nil (s := s) (i := s.size) (by omega)] at b4'
      cases b4'
    refine Ev.neg he ?_
    have hlt2 : a1 < a + (s.size - a) := by clear b6 b5 b4' hst ih; omega
    obtain ⟨c, T, d1, d2, d3⟩ := b6 hlt2
    clear b6
    rw [List.drop_drop, show a + (a1 - a) = a1 by omega] at d1
    have hz : T.length + 1 = s.size - a1 := by
      have := congrArg List.length d1
      rw [List.length_drop, len_toList, List.length_cons] at this
      omega
    rw [hst, d1, stop_next c T d2 d3] at b4'
    obtain ⟨n1, n2, n3⟩ := nxm_len c T d2
    have hN := next_ev (s.extract a1 s.size) c T (by rw [tail_toList, d1]) (by have : (s.extract a1 s.size).size = s.size - a1 := size_extract_end s a1; omega)
    unfold nextR at hN
    have hpos : ∀ m : Nat, m ≤ (nxm (c :: T)).1 → pos ((s.data.toList.drop a).take (a1 - a + m)) l (a - h + 1) = (l1, a1 - h1 + 1 + m) := by
      intro m hm
      rw [take_add', pos_append, b5, List.drop_drop, show a + (a1 - a) = a1 by omega, d1]
      simp only
      have hn : noNl ((c :: T).take m) := by
        intro x hx
        refine n1 x ?_
        rw [show (nxm (c :: T)).1 = m + ((nxm (c :: T)).1 - m) by omega, take_add']
        exact List.mem_append_left _ hx
      rw [pos_noNl _ _ _ hn, List.length_take]
      congr 2
      simp only [List.length_cons]; omega
    by_cases hok : (nxm (c :: T)).2 = true
    · rw [if_pos hok] at hN
      refine Ev.bind hN ?_
      simp only
      refine Ev.pos (by omega) ?_
      have hm := n3 hok
      rw [hok] at b4'
      simp only [okStop, if_pos, sh_sh] at b4'
      rw [← d1, List.drop_drop] at b4'
      rw [d1] at b4'
      cases hq : stop0 (s.data.toList.drop (a1 + (nxm (c :: T)).1)) with
      | none => rw [hq] at b4'; cases b4'
      | some q =>
        rw [hq] at b4'
        simp only [sh, Option.map_some, Option.some.injEq] at b4'
        refine (ih _ _ _ _ q (by omega) (by omega) (by omega) hq).val ?_
        have e := hpos (nxm (c :: T)).1 (Nat.le_refl _)
        have e2 : pos ((s.data.toList.drop a).take p) l (a - h + 1) = pos ((s.data.toList.drop (a1 + (nxm (c :: T)).1)).take q) l1 (a1 + (nxm (c :: T)).1 - h1 + 1) := by
          rw [b4', show q + (a1 - a + (nxm (c :: T)).1) = (a1 - a + (nxm (c :: T)).1) + q by omega, take_add', pos_append, e, List.drop_drop, show a + (a1 - a + (nxm (c :: T)).1) = a1 + (nxm (c :: T)).1 by omega]
          simp only
          congr 1; omega
        rw [e2]
    · rw [if_neg hok] at hN
      refine Ev.bind hN ?_
      simp only
      refine Ev.pos (by omega) (Ev.const ?_)
      rw [show (nxm (c :: T)).2 = false by simpa using hok] at b4'
      simp only [okStop, sh] at b4'
      have hp : p = a1 - a + (nxm (c :: T)).1 := by simp at b4'; omega
      rw [hp, hpos _ (Nat.le_refl _)]
      simp only [Option.some.injEq, Prod.mk.injEq, true_and]
      omega
def scanV (s : ByteArray) : List S37 × Int × Int × Int :=
  if 65536 < s.size then ([], 3, 0, 0)
  else match stop0 s.data.toList with
    | none => (toksF s (s.size + 1) 0 1 0, 0, 0, 0)
    | some p => ([], 50, ((pos (s.data.toList.take p) 1 1).1 : Int), ((pos (s.data.toList.take p) 1 1).2 : Int))
theorem tokscan_ev (s : ByteArray) : Ev (fun k => tokens_Scan.f k s) (scanV s) := by
  unfold tokens_Scan.f scanV
  by_cases hs : 65536 < s.size
  · rw [if_pos hs]; exact Ev.pos hs (Ev.pure _)
  rw [if_neg hs]
  refine Ev.neg hs ?_
  cases h : stop0 s.data.toList with
  | none => exact scan_good s (by omega) (s.size + 1) 0 1 0 [] (by omega) (by omega) (by omega) (by simpa using h)
  | some p =>
    have := scan_bad s (by omega) (s.size + 1) 0 1 0 [] p (by omega) (by omega) (by omega) (by simpa using h)
    simpa using this
theorem toksF_len (s : ByteArray) : ∀ (f a l h : Nat), (toksF s f a l h).length ≤ f
  | 0, _, _, _ => by simp [toksF]
  | f + 1, a, l, h => by
    unfold toksF
    split
    · simp
    · have := toksF_len s f ((blk false (s.data.toList.drop a) a l h).1 + (nxm (s.data.toList.drop (blk false (s.data.toList.drop a) a l h).1)).1) (blk false (s.data.toList.drop a) a l h).2.1 (blk false (s.data.toList.drop a) a l h).2.2
      simp only [List.length_cons]; omega
theorem scanV_len (s : ByteArray) : (scanV s).1.length ≤ 65537 := by
  unfold scanV
  by_cases hs : 65536 < s.size
  · rw [if_pos hs]; simp
  rw [if_neg hs]
  cases h : stop0 s.data.toList with
  | none => have := toksF_len s (s.size + 1) 0 1 0; simp only; omega
  | some p => simp
theorem same_ev (l : List S37) (hl : l.length ≤ 65537) : Ev (fun k => latchkeyref00_SameTokens.f k l l) true := by
  unfold latchkeyref00_SameTokens.f
  refine Ev.pos rfl ?_
  have key : ∀ (N i : Nat), l.length - i ≤ N → i ≤ l.length → Ev (fun k => latchkeyref00_SameTokens.l0 k l l (i : Int)) true := by
    intro N
    induction N with
    | zero =>
      intro i h h2
      refine Ev.succ ?_
      unfold latchkeyref00_SameTokens.l0
      exact Ev.neg (by omega) (Ev.pure _)
    | succ N ih =>
      intro i h h2
      refine Ev.succ ?_
      unfold latchkeyref00_SameTokens.l0
      by_cases h3 : i < l.length
      · refine Ev.pos (by omega) (Ev.pos (by omega) (Ev.pos (by omega) (Ev.pos (by simp) ?_)))
        rw [tk_nat (by omega)]
        exact ih (i + 1) (by omega) (by omega)
      · exact Ev.neg (by omega) (Ev.pure _)
  exact key l.length 0 (by omega) (by omega)
end Go.Proofs.YteedjhoffjkhmaaDoor.Q
