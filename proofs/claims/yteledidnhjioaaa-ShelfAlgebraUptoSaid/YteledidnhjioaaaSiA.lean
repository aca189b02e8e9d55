import Derived.Test.YteledidnhjioaaaShZ
import Derived.Test.YteledidnhjioaaaShW
namespace Go.Proofs.Yteledidnhjioaaa.Sh
open Go.RowKit Go.Lib Go.Proofs Go.Shelf
set_option linter.unusedVariables false
set_option linter.unusedSimpArgs false
theorem madeT_rises (l : List (Int × Int)) : Rises cmpR (madeT l).list :=
  fold_ind (f := fun (T : Tr (Int × Int)) x => (T.put cmpR x false).1) (P := fun (T : Tr (Int × Int)) _ => Rises cmpR T.list) (fun T n x h => put_rises ordR h) l .leaf 0 List.Pairwise.nil
set_option maxRecDepth 100000 in
set_option maxHeartbeats 8000000 in
theorem rising_ref {l : List (Int × Int)} {w : World} {A : Option Addr} {cap : Nat} (hl : SliceAt w A cap l) (hz : l.length ≤ 13999999999998) :
    Calls Try.prog 27 #[.slice A l.length cap] w fun e w' => ∃ v, e = .returned v ∧ w'.ownsRow w.heap.size 27 2 v (madeT l).list.length (flat (madeT l).list) ∧ Later w w' := by
  have hcap := hl.1
  go_enter Try.func27, Try.ntmps27
  go_wp2_with fail
  go_loopw [3, 4] (fun v i wr => ∃ k : Nat, k ≤ l.length ∧ i = .int .i64 k ∧ wr.ownsRow w.heap.size 27 2 v (madeT (l.take k)).list.length (flat (madeT (l.take k)).list) ∧ Later w wr) (fun _ i _ => l.length - (intOf i).toNat)
  case atStart => exact ⟨0, Nat.zero_le _, rfl, ownsRow_nil2 _ _, Later.refl _⟩
  case round =>
    obtain ⟨k, hk, rfl, hrow, hb⟩ := hrel
    by_cases hlt : k < l.length
    · obtain ⟨y, hy⟩ : ∃ y, l[k]? = some y := ⟨_, List.getElem?_eq_getElem hlt⟩
      obtain ⟨b, o, rfl, c0, c1⟩ := (hl.later hb).2.2 _ _ hy
      have hsz := madeT_size (l.take k)
      rw [List.length_take_of_le hk, ← Tr.size_list] at hsz
      have hri := madeT_rises (l.take k)
      have hts : Hid ((madeT (l.take (k + 1))).list = insL cmpR y false (madeT (l.take k)).list) := hid (by rw [take_snoc hy, madeT_snoc, (put_list ordR y false _ hri).1])
      obtain ⟨L, hL⟩ : ∃ L, (madeT (l.take k)).list = L := ⟨_, rfl⟩
      rw [hL] at hrow hsz hri hts
      obtain ⟨A2, cap2, rfl, hs, hbase⟩ := row_slice2 hrow (by omega) rfl
      have hput := put_ref y false hs hri (by omega)
      clear hL hy hrow
      go_wp2_with fail
      go_at_call 46; refine hput.mono ?_; rintro e w1 ⟨v, rfl, hrow, l1⟩
      go_wp2_with fail
      go_roundw
      case rel => exact ⟨k + 1, by omega, by go_num, by rw [hts.out]; exact own_lower hrow hb.size, hb.next l1⟩
      case measure => simp [intOf]; omega
    · obtain rfl : k = l.length := by omega
      rw [List.take_length] at hrow
      go_wp2_with fail
      go_ret
      exact ⟨_, rfl, hrow, hb⟩
end Go.Proofs.Yteledidnhjioaaa.Sh
namespace Go.Proofs.Yteledidnhjioaaa.Sh
set_option linter.unusedVariables false
set_option linter.unusedSimpArgs false
/-! ### the plain law of Join: the least head over and over is what puts in order give -/
/-- the reference's Join -/
def joinR (ls : List (List (Int × Int))) : List (Int × Int) := ls.flatten.foldl (fun acc x => insL cmpR x false acc) []
def stepH (acc : Option (Int × Int)) (q : List (Int × Int)) : Option (Int × Int) :=
  match q with
  | [] => acc
  | x :: _ => match acc with
    | none => some x
    | some y => if cmpR x y < 0 then some x else some y
def leastH (ls : List (List (Int × Int))) (acc : Option (Int × Int)) : Option (Int × Int) := ls.foldl stepH acc
def dropH (y : Int × Int) (q : List (Int × Int)) : List (Int × Int) :=
  match q with
  | [] => []
  | x :: r => if cmpR x y = 0 then r else x :: r
def mergeN : Nat → List (List (Int × Int)) → List (Int × Int)
  | 0, _ => []
  | n + 1, ls => match leastH ls none with
    | none => []
    | some y => y :: mergeN n (ls.map (dropH y))
abbrev firstK (k : Int) (l : List (Int × Int)) : Option (Int × Int) := l.find? (fun e => e.1 == k)
abbrev RisesR (l : List (Int × Int)) : Prop := l.Pairwise fun a b => a.1 < b.1
theorem rises_iff (l : List (Int × Int)) : Rises cmpR l ↔ RisesR l := by
  unfold Rises RisesR
  constructor <;> (intro h; exact h.imp fun {a b} h => by first | exact (cmpR_lt a b).1 h | exact (cmpR_lt a b).2 h)
theorem mem_ins (z x : Int × Int) : ∀ l : List (Int × Int), RisesR l → (z ∈ insL cmpR x false l ↔ z ∈ l ∨ (z = x ∧ firstK x.1 l = none))
  | [], _ => by simp [insL, firstK]
  | y :: t, hr => by
    rw [RisesR, List.pairwise_cons] at hr
    have ih := mem_ins z x t hr.2
    unfold insL
    simp only [cmpR_lt, cmpR_gt]
    by_cases h1 : x.1 < y.1
    · rw [if_pos h1]
      have : firstK x.1 (y :: t) = none := by
        rw [List.find?_eq_none]
        intro e he
        rcases List.mem_cons.1 he with rfl | he
        · simp; omega
        · have := hr.1 e he; simp; omega
      simp only [this, List.mem_cons, and_true]
      constructor
      · rintro (h | h | h) <;> simp [h]
      · rintro ((h | h) | h) <;> simp [h]
    · rw [if_neg h1]
      by_cases h2 : y.1 < x.1
      · rw [if_pos h2]
        have : firstK x.1 (y :: t) = firstK x.1 t := by rw [firstK, List.find?_cons_of_neg (by simp; omega)]
        rw [this, List.mem_cons, List.mem_cons, ih]
        constructor
        · rintro (h | h | h) <;> simp [h]
        · rintro ((h | h) | h) <;> simp [h]
      · rw [if_neg h2]
        have : firstK x.1 (y :: t) = some y := List.find?_cons_of_pos (by simp; omega)
        simp [this]
theorem ins_rises (x : Int × Int) {l : List (Int × Int)} (h : RisesR l) : RisesR (insL cmpR x false l) := (rises_iff _).1 (insL_rises ordR ((rises_iff _).2 h))
theorem first_eq {z : Int × Int} {l : List (Int × Int)} (hr : RisesR l) (h : z ∈ l) : firstK z.1 l = some z := by
  induction l with
  | nil => cases h
  | cons y t ih =>
    rw [RisesR, List.pairwise_cons] at hr
    rcases List.mem_cons.1 h with rfl | h
    · exact List.find?_cons_of_pos (by simp)
    · rw [firstK, List.find?_cons_of_neg (by have := hr.1 z h; simp; omega)]
      exact ih hr.2 h
theorem fold_mem (z : Int × Int) : ∀ (xs acc : List (Int × Int)), RisesR acc → (RisesR (xs.foldl (fun acc x => insL cmpR x false acc) acc) ∧ (z ∈ xs.foldl (fun acc x => insL cmpR x false acc) acc ↔ z ∈ acc ∨ (firstK z.1 acc = none ∧ firstK z.1 xs = some z)))
  | [], acc, h => by simp [firstK, h]
  | x :: xs, acc, h => by
    obtain ⟨i1, i2⟩ := fold_mem z xs (insL cmpR x false acc) (ins_rises x h)
    refine ⟨i1, ?_⟩
    rw [List.foldl_cons, i2, mem_ins z x acc h]
    by_cases hx : x.1 = z.1
    · have e1 : firstK z.1 (x :: xs) = some x := List.find?_cons_of_pos (by simp [hx])
      have e2 : firstK z.1 (insL cmpR x false acc) ≠ none := by
        intro h0
        rw [List.find?_eq_none] at h0
        cases h3 : firstK x.1 acc with
        | none => exact absurd (h0 x ((mem_ins x x acc h).2 (.inr ⟨rfl, h3⟩))) (by simp [hx])
        | some y =>
          have hy := List.mem_of_find?_eq_some h3
          have hk := List.find?_some h3
          simp at hk
          exact absurd (h0 y ((mem_ins y x acc h).2 (.inl hy))) (by simp [hk, hx])
      rw [e1, hx]
      constructor
      · rintro ((h1 | ⟨rfl, h1⟩) | ⟨h1, _⟩)
        · exact .inl h1
        · exact .inr ⟨h1, rfl⟩
        · exact absurd h1 e2
      · rintro (h1 | ⟨h1, h2⟩)
        · exact .inl (.inl h1)
        · exact .inl (.inr ⟨by injection h2 with h2; exact h2.symm, h1⟩)
    · have e1 : firstK z.1 (x :: xs) = firstK z.1 xs := by rw [firstK, List.find?_cons_of_neg (by simp; exact hx)]
      have e2 : firstK z.1 (insL cmpR x false acc) = none ↔ firstK z.1 acc = none := by
        rw [List.find?_eq_none, List.find?_eq_none]
        constructor
        · exact fun h0 e he => h0 e ((mem_ins e x acc h).2 (.inl he))
        · intro h0 e he
          rcases (mem_ins e x acc h).1 he with he | ⟨rfl, _⟩
          · exact h0 e he
          · simp; exact hx
      rw [e1, e2]
      constructor
      · rintro ((h1 | ⟨rfl, _⟩) | h1)
        · exact .inl h1
        · exact absurd rfl hx
        · exact .inr h1
      · rintro (h1 | h1)
        · exact .inl (.inl h1)
        · exact .inr h1
theorem rises_ext {a b : List (Int × Int)} (ha : RisesR a) (hb : RisesR b) (h : ∀ z, z ∈ a ↔ z ∈ b) : a = b := by
  induction a generalizing b with
  | nil =>
    cases b with
    | nil => rfl
    | cons y t => exact absurd ((h y).2 (by simp)) (by simp)
  | cons x s ih =>
    cases b with
    | nil => exact absurd ((h x).1 (by simp)) (by simp)
    | cons y t =>
      rw [RisesR, List.pairwise_cons] at ha hb
      have hxy : x = y := by
        rcases List.mem_cons.1 ((h x).1 (by simp)) with e | hx
        · exact e
        · rcases List.mem_cons.1 ((h y).2 (by simp)) with e | hy
          · exact e.symm
          · have h1 := hb.1 x hx
            have h2 := ha.1 y hy
            omega
      subst hxy
      congr 1
      refine ih ha.2 hb.2 fun z => ?_
      constructor
      · intro hz
        rcases List.mem_cons.1 ((h z).1 (by simp [hz])) with e | h'
        · subst e; have := ha.1 z hz; omega
        · exact h'
      · intro hz
        rcases List.mem_cons.1 ((h z).2 (by simp [hz])) with e | h'
        · subst e; have := hb.1 z hz; omega
        · exact h'
theorem first_skip {k : Int} {q l : List (Int × Int)} (h : ∀ e ∈ q, k < e.1) : firstK k (q ++ l) = firstK k l := by
  rw [firstK, List.find?_append, List.find?_eq_none.2 (fun e he => by have := h e he; simp; omega)]
  rfl
theorem least_spec : ∀ (ls : List (List (Int × Int))) (acc : Option (Int × Int)), (∀ q ∈ ls, RisesR q) →
    (leastH ls acc = none → acc = none ∧ ls.flatten = []) ∧
    (∀ y, leastH ls acc = some y → (∀ e ∈ ls.flatten, y.1 ≤ e.1) ∧ (acc = some y ∨ ((∀ a, acc = some a → y.1 < a.1) ∧ firstK y.1 ls.flatten = some y)))
  | [], acc, _ => ⟨fun h => ⟨h, rfl⟩, fun y h => ⟨fun e he => by simp at he, .inl h⟩⟩
  | [] :: t, acc, hr => by
    have ih := least_spec t acc (fun q hq => hr q (List.mem_cons_of_mem _ hq))
    simpa [leastH, stepH] using ih
  | (x :: r) :: t, acc, hr => by
    have hxr := hr (x :: r) (List.mem_cons_self ..)
    have hge : ∀ e ∈ x :: r, x.1 ≤ e.1 := fun e he => by
      rcases List.mem_cons.1 he with rfl | he
      · exact Int.le_refl _
      · rw [RisesR, List.pairwise_cons] at hxr
        exact Int.le_of_lt (hxr.1 e he)
    obtain ⟨acc', hacc⟩ : ∃ acc', stepH acc (x :: r) = acc' := ⟨_, rfl⟩
    have hstep : leastH ((x :: r) :: t) acc = leastH t acc' := by rw [← hacc]; rfl
    obtain ⟨i1, i2⟩ := least_spec t acc' (fun q hq => hr q (List.mem_cons_of_mem _ hq))
    rw [hstep]
    have hcase : (acc' = some x ∧ ∀ a, acc = some a → x.1 < a.1) ∨ (∃ a, acc = some a ∧ acc' = some a ∧ a.1 ≤ x.1) := by
      cases acc with
      | none => exact .inl ⟨hacc.symm, fun a h => by cases h⟩
      | some a =>
        simp only [stepH] at hacc
        by_cases h : cmpR x a < 0
        · rw [if_pos h] at hacc
          exact .inl ⟨hacc.symm, fun b hb => by cases hb; exact (cmpR_lt _ _).1 h⟩
        · rw [if_neg h] at hacc
          exact .inr ⟨a, rfl, hacc.symm, by rw [cmpR_lt] at h; omega⟩
    refine ⟨fun h => ?_, fun y h => ?_⟩
    · obtain ⟨h1, _⟩ := i1 h
      rcases hcase with ⟨h2, _⟩ | ⟨a, _, h2, _⟩ <;> (rw [h2] at h1; cases h1)
    · obtain ⟨j1, j2⟩ := i2 y h
      rw [List.flatten_cons]
      rcases hcase with ⟨h2, h3⟩ | ⟨a, h1, h2, h3⟩
      · rcases j2 with j2 | ⟨j2, j3⟩
        · rw [h2] at j2; cases j2
          refine ⟨fun e he => (List.mem_append.1 he).elim (hge e) (j1 e), .inr ⟨h3, ?_⟩⟩
          rw [List.cons_append]
          exact List.find?_cons_of_pos (by simp)
        · have hyx := j2 x h2
          refine ⟨fun e he => (List.mem_append.1 he).elim (fun he => by have := hge e he; omega) (j1 e), .inr ⟨fun b hb => by have := h3 b hb; omega, ?_⟩⟩
          rw [first_skip (fun e he => by have := hge e he; omega)]
          exact j3
      · rcases j2 with j2 | ⟨j2, j3⟩
        · rw [h2] at j2; cases j2
          exact ⟨fun e he => (List.mem_append.1 he).elim (fun he => by have := hge e he; omega) (j1 e), .inl h1⟩
        · have hya := j2 a h2
          refine ⟨fun e he => (List.mem_append.1 he).elim (fun he => by have := hge e he; omega) (j1 e), .inr ⟨fun b hb => by rw [h1] at hb; cases hb; exact hya, ?_⟩⟩
          rw [first_skip (fun e he => by have := hge e he; omega)]
          exact j3
theorem drop_filter {y : Int × Int} : ∀ {q : List (Int × Int)}, RisesR q → (∀ e ∈ q, y.1 ≤ e.1) → dropH y q = q.filter (fun e => decide (e.1 ≠ y.1))
  | [], _, _ => rfl
  | x :: r, hr, hy => by
    rw [RisesR, List.pairwise_cons] at hr
    have hrest : r.filter (fun e => decide (e.1 ≠ y.1)) = r := List.filter_eq_self.2 fun e he => by have h1 := hr.1 e he; have h2 := hy x (List.mem_cons_self ..); simp; omega
    unfold dropH
    simp only [cmpR_eq]
    by_cases h : x.1 = y.1
    · rw [if_pos h, List.filter_cons_of_neg (by simp [h]), hrest]
    · rw [if_neg h, List.filter_cons_of_pos (by simp [h]), hrest]
theorem drop_all {y : Int × Int} : ∀ {ls : List (List (Int × Int))}, (∀ q ∈ ls, RisesR q) → (∀ e ∈ ls.flatten, y.1 ≤ e.1) → (ls.map (dropH y)).flatten = ls.flatten.filter (fun e => decide (e.1 ≠ y.1))
  | [], _, _ => rfl
  | q :: t, hr, hy => by
    rw [List.map_cons, List.flatten_cons, List.flatten_cons, List.filter_append, drop_all (fun q hq => hr q (List.mem_cons_of_mem _ hq)) (fun e he => hy e (by rw [List.flatten_cons]; exact List.mem_append_right _ he)),
      drop_filter (hr q (List.mem_cons_self ..)) (fun e he => hy e (by rw [List.flatten_cons]; exact List.mem_append_left _ he))]
theorem drop_rises {y : Int × Int} {q : List (Int × Int)} (h : RisesR q) : RisesR (dropH y q) := by
  cases q with
  | nil => exact h
  | cons x r =>
    by_cases h0 : cmpR x y = 0
    · rw [show dropH y (x :: r) = r from if_pos h0]
      exact (List.pairwise_cons.1 h).2
    · rw [show dropH y (x :: r) = x :: r from if_neg h0]
      exact h
theorem merge_spec : ∀ (n : Nat) (ls : List (List (Int × Int))), (∀ q ∈ ls, RisesR q) → ls.flatten.length ≤ n → RisesR (mergeN n ls) ∧ ∀ z, z ∈ mergeN n ls ↔ firstK z.1 ls.flatten = some z
  | 0, ls, hr, hn => by
    have : ls.flatten = [] := List.length_eq_zero_iff.1 (by omega)
    simp [mergeN, this, firstK, RisesR]
  | n + 1, ls, hr, hn => by
    obtain ⟨h1, h2⟩ := least_spec ls none hr
    unfold mergeN
    cases hl : leastH ls none with
    | none =>
      obtain ⟨_, h3⟩ := h1 hl
      simp [h3, firstK, RisesR]
    | some y =>
      obtain ⟨j1, j2⟩ := h2 y hl
      have j3 : firstK y.1 ls.flatten = some y := j2.elim (fun h => by cases h) (fun h => h.2)
      have hmem := List.mem_of_find?_eq_some j3
      have hfl := drop_all (y := y) hr j1
      have hlen : (ls.map (dropH y)).flatten.length ≤ n := by
        have : (ls.flatten.filter (fun e => decide (e.1 ≠ y.1))).length < ls.flatten.length := List.length_filter_lt_length_iff_exists.2 ⟨y, hmem, by simp⟩
        rw [hfl]; omega
      obtain ⟨i1, i2⟩ := merge_spec n (ls.map (dropH y)) (fun q hq => by obtain ⟨p, hp, rfl⟩ := List.mem_map.1 hq; exact drop_rises (hr p hp)) hlen
      have hk : ∀ z : Int × Int, z.1 ≠ y.1 → firstK z.1 (ls.map (dropH y)).flatten = firstK z.1 ls.flatten := fun z hz => by
        rw [hfl, firstK, List.find?_filter]
        congr 1
        funext e
        by_cases he : e.1 = z.1
        · simp [he, hz]
        · simp [he]
      have hn0 : ∀ z : Int × Int, z.1 = y.1 → firstK z.1 (ls.map (dropH y)).flatten = none := fun z hz => by
        rw [hfl, List.find?_eq_none]
        intro e he
        have := (List.mem_filter.1 he).2
        simp at this
        simp [hz, this]
      dsimp only
      refine ⟨List.pairwise_cons.2 ⟨fun z hz => ?_, i1⟩, fun z => ?_⟩
      · have h4 := (i2 z).1 hz
        have hzy : z.1 ≠ y.1 := fun e => by rw [hn0 z e] at h4; cases h4
        rw [hk z hzy] at h4
        have := j1 z (List.mem_of_find?_eq_some h4)
        omega
      · rw [List.mem_cons, i2]
        by_cases hz : z.1 = y.1
        · rw [hn0 z hz, hz, j3]
          constructor
          · rintro (h | h)
            · rw [h]
            · cases h
          · intro h; injection h with h; exact .inl h.symm
        · rw [hk z hz]
          constructor
          · rintro (h | h)
            · exact absurd (by rw [h]) hz
            · exact h
          · exact .inr
/-- what the merging gives is what the reference puts together -/
theorem merge_join {n : Nat} {ls : List (List (Int × Int))} (hr : ∀ q ∈ ls, RisesR q) (hn : ls.flatten.length ≤ n) : mergeN n ls = joinR ls := by
  obtain ⟨h1, h2⟩ := merge_spec n ls hr hn
  refine rises_ext h1 (fold_mem (0, 0) ls.flatten [] List.Pairwise.nil).1 fun z => ?_
  rw [h2 z]
  have := (fold_mem z ls.flatten [] List.Pairwise.nil).2
  unfold joinR
  rw [this]
  simp [firstK]
end Go.Proofs.Yteledidnhjioaaa.Sh
namespace Go.Proofs.Yteledidnhjioaaa.Sh
set_option linter.unusedVariables false
set_option linter.unusedSimpArgs false
/-! ### the plain law of Meet and Without -/
abbrev hasK (k : Int) (l : List (Int × Int)) : Bool := l.any fun e => e.1 == k
abbrev below (x : Int × Int) (q : List (Int × Int)) : List (Int × Int) := q.dropWhile fun e => decide (cmpR e x < 0)
def likeH (x : Int × Int) (q : List (Int × Int)) : Bool :=
  match q with
  | [] => false
  | e :: _ => decide (cmpR e x = 0)
def splitL (both : Bool) : List (Int × Int) → List (Int × Int) → List (Int × Int)
  | [], _ => []
  | x :: r, q => (if likeH x (below x q) = both then [x] else []) ++ splitL both r (below x q)
theorem below_has {x : Int × Int} {k : Int} (hk : x.1 ≤ k) : ∀ q : List (Int × Int), hasK k (below x q) = hasK k q
  | [] => rfl
  | e :: t => by
    by_cases h : cmpR e x < 0
    · rw [below, List.dropWhile_cons_of_pos (by simp [h])]
      have h1 := (cmpR_lt _ _).1 h
      have := below_has hk t
      rw [this, hasK, hasK, List.any_cons, show (e.1 == k) = false by simp; omega, Bool.false_or]
    · rw [below, List.dropWhile_cons_of_neg (by simp [h])]
theorem below_rises {x : Int × Int} {q : List (Int × Int)} (h : RisesR q) : RisesR (below x q) := h.sublist (List.dropWhile_sublist _)
theorem below_head {x e : Int × Int} {t : List (Int × Int)} : ∀ {q : List (Int × Int)}, below x q = e :: t → ¬ cmpR e x < 0
  | [], h => by cases h
  | f :: s, h => by
    by_cases hf : cmpR f x < 0
    · rw [below, List.dropWhile_cons_of_pos (by simp [hf])] at h
      exact below_head h
    · rw [below, List.dropWhile_cons_of_neg (by simp [hf])] at h
      injection h with h _
      rw [← h]; exact hf
theorem like_has {x : Int × Int} {q : List (Int × Int)} (h : RisesR q) : likeH x (below x q) = hasK x.1 q := by
  rw [← below_has (Int.le_refl x.1) q]
  have hr := below_rises (x := x) h
  cases hb : below x q with
  | nil => rfl
  | cons e t =>
    rw [hb, RisesR, List.pairwise_cons] at hr
    have hn : ¬ cmpR e x < 0 := below_head hb
    rw [cmpR_lt] at hn
    simp only [likeH, cmpR_eq, hasK, List.any_cons]
    by_cases he : e.1 = x.1
    · simp [he]
    · have : t.any (fun e => e.1 == x.1) = false := by
        rw [List.any_eq_false]
        intro f hf
        have := hr.1 f hf
        simp; omega
      simp [he, this]
theorem split_filter (both : Bool) : ∀ (p q : List (Int × Int)), RisesR p → RisesR q → splitL both p q = p.filter fun x => hasK x.1 q == both
  | [], _, _, _ => rfl
  | x :: r, q, hp, hq => by
    rw [RisesR, List.pairwise_cons] at hp
    unfold splitL
    rw [split_filter both r _ hp.2 (below_rises hq), like_has hq]
    have : r.filter (fun y => hasK y.1 (below x q) == both) = r.filter (fun y => hasK y.1 q == both) := by
      refine List.filter_congr fun y hy => ?_
      rw [below_has (Int.le_of_lt (hp.1 y hy))]
    rw [this]
    by_cases h : hasK x.1 q = both
    · rw [if_pos h, List.filter_cons_of_pos (by simp [h])]; rfl
    · rw [if_neg h, List.filter_cons_of_neg (by simp [h])]; rfl
theorem hasL_hasK (x : Int × Int) : ∀ q : List (Int × Int), hasL cmpR x q = hasK x.1 q
  | [] => rfl
  | e :: t => by
    unfold hasL
    rw [hasL_hasK x t, hasK, hasK, List.any_cons]
    simp only [cmpR_eq]
    by_cases h : x.1 = e.1
    · simp [h]
    · simp [h, show ¬ e.1 = x.1 from fun k => h k.symm]
end Go.Proofs.Yteledidnhjioaaa.Sh
