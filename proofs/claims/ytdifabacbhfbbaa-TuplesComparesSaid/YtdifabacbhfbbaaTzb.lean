import Derived.Test.YtdifabacbhfbbaaTza
namespace Go.Proofs.Ytdifabacbhfbbaa.Tu
open Go.RowKit Go.Lib Go.Proofs
set_option linter.unusedVariables false
set_option linter.unusedSimpArgs false
abbrev ArgV.val (x : ArgV) : ValV := ⟨x.kind, x.b, x.i, x.r, x.text⟩
def sameA (a b : Arg) : Bool := a.x.name.toList == b.x.name.toList && sameP a.x.val b.x.val a.l b.l
def allA : List Arg → List Arg → Bool
  | a :: L, b :: M => sameA a b && allA L M
  | [], [] => true
  | _, _ => false
theorem allA_len : ∀ {L M : List Arg}, L.length ≠ M.length → allA L M = false
  | a :: L, b :: M, h => by
    unfold allA
    rw [allA_len (L := L) (M := M) (by simpa using h), Bool.and_false]
  | [], [], h => by simp at h
  | [], b :: M, h => rfl
  | a :: L, [], h => rfl
theorem allA_drop {L M : List Arg} {k : Nat} {a b : Arg} (ha : L[k]? = some a) (hb : M[k]? = some b) : allA (L.drop k) (M.drop k) = (sameA a b && allA (L.drop (k + 1)) (M.drop (k + 1))) := by
  obtain ⟨h1, e1⟩ := List.getElem?_eq_some_iff.1 ha
  obtain ⟨h2, e2⟩ := List.getElem?_eq_some_iff.1 hb
  rw [List.drop_eq_getElem_cons h1, List.drop_eq_getElem_cons h2, e1, e2]
  rfl
theorem allA_end {L M : List Arg} {k : Nat} (ha : L.length = k) (hb : M.length = k) : allA (L.drop k) (M.drop k) = true := by
  rw [List.drop_of_length_le (by omega), List.drop_of_length_le (by omega)]
  rfl
theorem LA.at {W : World} {g cap : Nat} {L : List Arg} (h : LA W g cap L) (hz : ∀ a ∈ L, a.l.length ≤ 8796093022080) : ArgsAt W (some ⟨g, 0, none⟩) L := fun i a hi => by
  obtain ⟨tg, tc, h7, hl⟩ := h.arg i a hi
  exact ⟨g, 0, some ⟨tg, 0, none⟩, tc, rfl, by rw [Nat.zero_add]; exact h7, hl.txt (List.prefix_append _ _), hz a (List.mem_of_getElem? hi)⟩
theorem sameval_ref2 (x y : ValV) {l m : List ByteArray} {w : World} {A B : Option Addr} {n1 n2 c c' : Nat} (hx : x.r < 4294967296) (hy : y.r < 4294967296) (hA : TxtAt w A l) (hB : TxtAt w B m) (hn1 : l.length = n1) (hn2 : m.length = n2) (hz1 : n1 ≤ 8796093022080) (hz2 : n2 ≤ 8796093022080) :
    Calls Try.prog 37 #[x.v (.slice A n1 c), y.v (.slice B n2 c')] w fun e w' => e = .returned (.bool (sameP x y l m)) ∧ Later w w' := by
  rw [same_ways x y l m hx hy]
  exact sameval_ref x y hx hy hA hB hn1 hn2 hz1 hz2
set_option maxHeartbeats 8000000 in
set_option maxRecDepth 100000 in
theorem samearg_any (x y : ArgV) {l m : List ByteArray} {w : World} {A B : Option Addr} {n1 n2 c c' : Nat} (hA : TxtAt w A l) (hB : TxtAt w B m) (hn1 : l.length = n1) (hn2 : m.length = n2) (hz1 : n1 ≤ 8796093022080) (hz2 : n2 ≤ 8796093022080) :
    Calls Try.prog 34 #[x.v (.slice A n1 c), y.v (.slice B n2 c')] w fun e w' => e = .returned (.bool (sameA ⟨x, l⟩ ⟨y, m⟩)) ∧ Later w w' := by
  obtain ⟨R, hR⟩ : ∃ R, sameA ⟨x, l⟩ ⟨y, m⟩ = R := ⟨_, rfl⟩
  rw [hR]
  have hr : Hid (R = sameA ⟨x, l⟩ ⟨y, m⟩) := hid hR.symm
  clear hR
  obtain ⟨hw2, hc⟩ := two_boxes (x.row (.slice A n1 c)) (y.row (.slice B n2 c')) 50 w
  have k1 := fun W (h : Later w W) => same_any x.val y.val (c := c) (c' := c') (hA.later h) (hB.later h) hn1 hn2 hz1 hz2
  unfold sameA at hr
  generalize sameP x.val y.val l m = o at k1 hr
  go_enter Try.func34, Try.ntmps34
  go_upto_region 1 with fail
  generalize (w.alloc (.cells (x.row (.slice A n1 c)).toArray 50)).alloc (.cells (y.row (.slice B n2 c')).toArray 50) = W2 at hc hw2 ⊢
  have p0 := (hc W2 (Later.refl _)).1 0 _ rfl
  have p1 := (hc W2 (Later.refl _)).1 1 _ rfl
  have p2 := (hc W2 (Later.refl _)).1 2 _ rfl
  have p3 := (hc W2 (Later.refl _)).1 3 _ rfl
  have p4 := (hc W2 (Later.refl _)).1 4 _ rfl
  have p5 := (hc W2 (Later.refl _)).1 5 _ rfl
  have p6 := (hc W2 (Later.refl _)).1 6 _ rfl
  have q0 := (hc W2 (Later.refl _)).2 0 _ rfl
  have q1 := (hc W2 (Later.refl _)).2 1 _ rfl
  have q2 := (hc W2 (Later.refl _)).2 2 _ rfl
  have q3 := (hc W2 (Later.refl _)).2 3 _ rfl
  have q4 := (hc W2 (Later.refl _)).2 4 _ rfl
  have q5 := (hc W2 (Later.refl _)).2 5 _ rfl
  have q6 := (hc W2 (Later.refl _)).2 6 _ rfl
  clear hc
  cases hn : (x.name.toList == y.name.toList) with
  | false =>
    have hr2 : Hid (R = false) := hid (by rw [hr.out]; simp only [hn, Bool.false_and])
    clear hr
    go_wp2_with fail
    go_ret
    exact ⟨by rw [hr2.out]; rfl, hw2⟩
  | true =>
    have hr2 : Hid (R = o) := hid (by rw [hr.out]; simp only [hn, Bool.true_and])
    clear hr
    go_wp2_with (go_at_call 35; (with_reducible refine (k1 _ hw2).mono ?_); rintro e w3 ⟨rfl, l3⟩)
    go_ret
    exact ⟨by rw [hr2.out]; rfl, hw2.next l3⟩
end Go.Proofs.Ytdifabacbhfbbaa.Tu
