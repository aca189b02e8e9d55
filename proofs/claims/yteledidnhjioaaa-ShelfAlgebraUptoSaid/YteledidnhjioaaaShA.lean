set_option linter.unusedSimpArgs false
namespace Go.Proofs.Yteledidnhjioaaa.Sh
/-! A balanced tree as a plain datum, and what the program's functions make of it. -/
inductive Tr (α : Type) where
  | leaf
  | node (l : Tr α) (x : α) (r : Tr α)
namespace Tr
variable {α : Type}
def size : Tr α → Nat
  | leaf => 0
  | node l _ r => l.size + r.size + 1
def tall : Tr α → Nat
  | leaf => 0
  | node l _ r => max l.tall r.tall + 1
def list : Tr α → List α
  | leaf => []
  | node l x r => l.list ++ x :: r.list
theorem tall_le : ∀ T : Tr α, T.tall ≤ T.size
  | leaf => Nat.le_refl _
  | node l x r => by have h1 := tall_le l; have h2 := tall_le r; simp only [tall, size]; omega
theorem size_list : ∀ T : Tr α, T.list.length = T.size
  | leaf => rfl
  | node l x r => by simp only [list, size, List.length_append, List.length_cons, size_list l, size_list r]; omega
/-- one element and two trees, of which one may be too tall -/
def even (l : Tr α) (x : α) (r : Tr α) : Tr α :=
  if r.tall + 1 < l.tall then
    match l with
    | leaf => node leaf x r
    | node ll lx lr =>
      if lr.tall ≤ ll.tall then node ll lx (node lr x r)
      else match lr with
        | leaf => node (node ll lx leaf) x r
        | node a m b => node (node ll lx a) m (node b x r)
  else if l.tall + 1 < r.tall then
    match r with
    | leaf => node l x leaf
    | node rl rx rr =>
      if rl.tall ≤ rr.tall then node (node l x rl) rx rr
      else match rl with
        | leaf => node l x (node leaf rx rr)
        | node a m b => node (node l x a) m (node b rx rr)
  else node l x r
theorem even_list (l : Tr α) (x : α) (r : Tr α) : (even l x r).list = l.list ++ x :: r.list := by
  unfold even
  split
  · cases l with
    | leaf => rfl
    | node ll lx lr =>
      dsimp only
      split
      · simp [list]
      · cases lr <;> simp [list]
  · split
    · cases r with
      | leaf => rfl
      | node rl rx rr =>
        dsimp only
        split
        · simp [list]
        · cases rl <;> simp [list]
    · rfl
theorem even_size (l : Tr α) (x : α) (r : Tr α) : (even l x r).size = l.size + r.size + 1 := by
  rw [← size_list, even_list, List.length_append, List.length_cons, size_list, size_list]; omega
def put (c : α → α → Int) (x : α) (over : Bool) : Tr α → Tr α × Bool
  | leaf => (node leaf x leaf, false)
  | node l y r =>
    if c x y < 0 then (even (put c x over l).1 y r, (put c x over l).2)
    else if 0 < c x y then (even l y (put c x over r).1, (put c x over r).2)
    else if over = true then (node l x r, true) else (node l y r, true)
def first : Tr α → α → Tr α → α × Tr α
  | leaf, x, r => (x, r)
  | node ll lx lr, x, r => ((first ll lx lr).1, even (first ll lx lr).2 x r)
def out (c : α → α → Int) (x : α) : Tr α → Tr α × Bool
  | leaf => (leaf, false)
  | node l y r =>
    if c x y < 0 then (even (out c x l).1 y r, (out c x l).2)
    else if 0 < c x y then (even l y (out c x r).1, (out c x r).2)
    else match r with
      | leaf => (l, true)
      | node a b d => (even l (first a b d).1 (first a b d).2, true)
theorem first_list : ∀ (l : Tr α) (x : α) (r : Tr α), (first l x r).1 :: (first l x r).2.list = l.list ++ x :: r.list
  | leaf, x, r => rfl
  | node ll lx lr, x, r => by
    have h := first_list ll lx lr
    simp only [first, even_list, list]
    rw [← List.cons_append, h]
theorem first_size (l : Tr α) (x : α) (r : Tr α) : (first l x r).2.size = l.size + r.size := by
  have h := congrArg List.length (first_list l x r)
  simp only [List.length_cons, List.length_append, size_list] at h
  omega
theorem put_size (c : α → α → Int) (x : α) (over : Bool) : ∀ T : Tr α, T.size ≤ (put c x over T).1.size ∧ (put c x over T).1.size ≤ T.size + 1
  | leaf => by simp [put, size]
  | node l y r => by
    have h1 := put_size c x over l
    have h2 := put_size c x over r
    unfold put
    split
    · rw [even_size]; simp only [size]; omega
    · split
      · rw [even_size]; simp only [size]; omega
      · split <;> (simp only [size]; omega)
theorem out_size (c : α → α → Int) (x : α) : ∀ T : Tr α, (out c x T).1.size ≤ T.size
  | leaf => by simp [out, size]
  | node l y r => by
    have h1 := out_size c x l
    have h2 := out_size c x r
    unfold out
    split
    · rw [even_size]; simp only [size]; omega
    · split
      · rw [even_size]; simp only [size]; omega
      · split
        · simp only [size]; omega
        · rw [even_size, first_size]; simp only [size]; omega
end Tr

/-- a comparison that orders -/
structure Ord {α : Type} (c : α → α → Int) : Prop where
  anti : ∀ a b, c a b < 0 ↔ 0 < c b a
  trans : ∀ a b d, c a b < 0 → c b d < 0 → c a d < 0
  left : ∀ a b d, c a b = 0 → (c a d < 0 ↔ c b d < 0)
  right : ∀ a b d, c a b = 0 → (c d a < 0 ↔ c d b < 0)
variable {α : Type} {c : α → α → Int}
def Rises (c : α → α → Int) (l : List α) : Prop := l.Pairwise fun a b => c a b < 0
def insL (c : α → α → Int) (x : α) (over : Bool) : List α → List α
  | [] => [x]
  | y :: t => if c x y < 0 then x :: y :: t else if 0 < c x y then y :: insL c x over t else (if over = true then x else y) :: t
def hasL (c : α → α → Int) (x : α) : List α → Bool
  | [] => false
  | y :: t => if c x y = 0 then true else hasL c x t
def remL (c : α → α → Int) (x : α) : List α → List α
  | [] => []
  | y :: t => if c x y = 0 then t else y :: remL c x t
def findL (c : α → α → Int) (x : α) : List α → Option α
  | [] => none
  | y :: t => if c x y = 0 then some y else findL c x t
def rankL (c : α → α → Int) (x : α) (l : List α) : Nat := l.countP fun y => c y x < 0
def fromL (c : α → α → Int) (x : α) (l : List α) : List α := l.filter fun y => ¬ c y x < 0

theorem hasL_lt (h : Ord c) {x : α} : ∀ {l : List α}, (∀ y ∈ l, c x y < 0) → hasL c x l = false
  | [], _ => rfl
  | y :: t, hl => by
    unfold hasL
    have := hl y (List.mem_cons_self ..)
    rw [if_neg (by omega)]
    exact hasL_lt h fun z hz => hl z (List.mem_cons_of_mem _ hz)
theorem hasL_gt (h : Ord c) {x : α} : ∀ {l : List α}, (∀ y ∈ l, c y x < 0) → hasL c x l = false
  | [], _ => rfl
  | y :: t, hl => by
    unfold hasL
    have := (h.anti _ _).1 (hl y (List.mem_cons_self ..))
    rw [if_neg (by omega)]
    exact hasL_gt h fun z hz => hl z (List.mem_cons_of_mem _ hz)
theorem hasL_append {x : α} : ∀ (l m : List α), hasL c x (l ++ m) = (hasL c x l || hasL c x m)
  | [], m => by simp [hasL]
  | y :: t, m => by
    simp only [List.cons_append, hasL]
    split
    · rfl
    · exact hasL_append t m
theorem findL_lt (h : Ord c) {x : α} : ∀ {l : List α}, (∀ y ∈ l, c x y < 0) → findL c x l = none
  | [], _ => rfl
  | y :: t, hl => by
    unfold findL
    have := hl y (List.mem_cons_self ..)
    rw [if_neg (by omega)]
    exact findL_lt h fun z hz => hl z (List.mem_cons_of_mem _ hz)
theorem findL_gt (h : Ord c) {x : α} : ∀ {l : List α}, (∀ y ∈ l, c y x < 0) → findL c x l = none
  | [], _ => rfl
  | y :: t, hl => by
    unfold findL
    have := (h.anti _ _).1 (hl y (List.mem_cons_self ..))
    rw [if_neg (by omega)]
    exact findL_gt h fun z hz => hl z (List.mem_cons_of_mem _ hz)
theorem findL_append {x : α} : ∀ (l m : List α), findL c x (l ++ m) = (findL c x l).or (findL c x m)
  | [], m => by simp [findL]
  | y :: t, m => by
    simp only [List.cons_append, findL]
    split
    · rfl
    · exact findL_append t m
theorem remL_no {x : α} : ∀ {l : List α}, hasL c x l = false → remL c x l = l
  | [], _ => rfl
  | y :: t, hl => by
    unfold hasL at hl
    split at hl
    · cases hl
    · unfold remL; rw [if_neg ‹_›, remL_no hl]
theorem remL_append {x : α} : ∀ (l m : List α), remL c x (l ++ m) = if hasL c x l = true then remL c x l ++ m else l ++ remL c x m
  | [], m => by simp [remL, hasL]
  | y :: t, m => by
    simp only [List.cons_append, remL, hasL]
    by_cases h : c x y = 0
    · simp [h]
    · simp only [if_neg h]
      rw [remL_append t m]
      split <;> rfl
/-- an element that is above all of l goes behind it -/
theorem insL_append (h : Ord c) {x : α} {over : Bool} : ∀ {l : List α} (m : List α), (∀ y ∈ l, c y x < 0) → insL c x over (l ++ m) = l ++ insL c x over m
  | [], m, _ => rfl
  | y :: t, m, hl => by
    have := (h.anti _ _).1 (hl y (List.mem_cons_self ..))
    simp only [List.cons_append, insL]
    rw [if_neg (by omega), if_pos this, insL_append h m fun z hz => hl z (List.mem_cons_of_mem _ hz)]
/-- an element that is below y goes ahead of it -/
theorem insL_ahead {x y : α} {over : Bool} (hxy : c x y < 0) : ∀ (l m : List α), insL c x over (l ++ y :: m) = insL c x over l ++ y :: m
  | [], m => by simp only [List.nil_append, insL, if_pos hxy]; rfl
  | z :: t, m => by
    simp only [List.cons_append, insL]
    split
    · rfl
    · split
      · rw [insL_ahead hxy t m]; rfl
      · rfl
theorem rises_parts {l r : List α} {y : α} (h : Rises c (l ++ y :: r)) : Rises c l ∧ Rises c r ∧ (∀ z ∈ l, c z y < 0) ∧ (∀ z ∈ r, c y z < 0) := by
  have h' := List.pairwise_append.1 h
  have h2 := List.pairwise_cons.1 h'.2.1
  exact ⟨h'.1, h2.2, fun z hz => h'.2.2 z hz y (List.mem_cons_self ..), h2.1⟩
theorem put_list (h : Ord c) (x : α) (over : Bool) : ∀ T : Tr α, Rises c T.list → (T.put c x over).1.list = insL c x over T.list ∧ (T.put c x over).2 = hasL c x T.list
  | .leaf, _ => ⟨rfl, rfl⟩
  | .node l y r, hr => by
    obtain ⟨hl, hrr, hly, hyr⟩ := rises_parts hr
    obtain ⟨l1, l2⟩ := put_list h x over l hl
    obtain ⟨r1, r2⟩ := put_list h x over r hrr
    unfold Tr.put
    simp only [Tr.list]
    by_cases h1 : c x y < 0
    · rw [if_pos h1]
      refine ⟨?_, ?_⟩
      · rw [Tr.even_list, l1, insL_ahead h1]
      · rw [hasL_append, l2]
        have e : hasL c x (y :: r.list) = false := hasL_lt h fun z hz => by
          rcases List.mem_cons.1 hz with rfl | hz
          · exact h1
          · exact h.trans _ _ _ h1 (hyr z hz)
        rw [e, Bool.or_false]
    · rw [if_neg h1]
      by_cases h2 : 0 < c x y
      · rw [if_pos h2]
        have hyx := (h.anti y x).2 h2
        have hlx : ∀ z ∈ l.list, c z x < 0 := fun z hz => h.trans _ _ _ (hly z hz) hyx
        refine ⟨?_, ?_⟩
        · rw [Tr.even_list, r1, insL_append h _ hlx]
          simp only [insL]; rw [if_neg h1, if_pos h2]
        · rw [hasL_append, r2, hasL_gt h hlx]
          simp only [hasL]; rw [if_neg (by omega), Bool.false_or]
      · rw [if_neg h2]
        have h0 : c x y = 0 := by omega
        have hlx : ∀ z ∈ l.list, c z x < 0 := fun z hz => (h.right x y z h0).2 (hly z hz)
        have e1 : insL c x over (l.list ++ y :: r.list) = l.list ++ (if over = true then x else y) :: r.list := by
          rw [insL_append h _ hlx]; simp only [insL]; rw [if_neg h1, if_neg h2]
        have e2 : hasL c x (l.list ++ y :: r.list) = true := by rw [hasL_append]; simp [hasL, h0]
        rw [e1, e2]
        split <;> simp_all [Tr.list]
theorem out_list (h : Ord c) (x : α) : ∀ T : Tr α, Rises c T.list → (T.out c x).1.list = remL c x T.list ∧ (T.out c x).2 = hasL c x T.list
  | .leaf, _ => ⟨rfl, rfl⟩
  | .node l y r, hr => by
    obtain ⟨hl, hrr, hly, hyr⟩ := rises_parts hr
    obtain ⟨l1, l2⟩ := out_list h x l hl
    obtain ⟨r1, r2⟩ := out_list h x r hrr
    unfold Tr.out
    simp only [Tr.list]
    by_cases h1 : c x y < 0
    · rw [if_pos h1]
      have e : hasL c x (y :: r.list) = false := hasL_lt h fun z hz => by
        rcases List.mem_cons.1 hz with rfl | hz
        · exact h1
        · exact h.trans _ _ _ h1 (hyr z hz)
      refine ⟨?_, ?_⟩
      · rw [Tr.even_list, l1, remL_append]
        split
        · rfl
        · rename_i hn
          rw [remL_no e, remL_no (by simpa using hn)]
      · rw [hasL_append, l2, e, Bool.or_false]
    · rw [if_neg h1]
      by_cases h2 : 0 < c x y
      · rw [if_pos h2]
        have hyx := (h.anti y x).2 h2
        have hlx : ∀ z ∈ l.list, c z x < 0 := fun z hz => h.trans _ _ _ (hly z hz) hyx
        refine ⟨?_, ?_⟩
        · rw [Tr.even_list, r1, remL_append, if_neg (by rw [hasL_gt h hlx]; simp)]
          simp only [remL]; rw [if_neg (by omega)]
        · rw [hasL_append, r2, hasL_gt h hlx]
          simp only [hasL]; rw [if_neg (by omega), Bool.false_or]
      · rw [if_neg h2]
        have h0 : c x y = 0 := by omega
        have hlx : ∀ z ∈ l.list, c z x < 0 := fun z hz => (h.right x y z h0).2 (hly z hz)
        have e1 : remL c x (l.list ++ y :: r.list) = l.list ++ r.list := by
          rw [remL_append, if_neg (by rw [hasL_gt h hlx]; simp)]; simp only [remL]; rw [if_pos h0]
        have e2 : hasL c x (l.list ++ y :: r.list) = true := by rw [hasL_append]; simp [hasL, h0]
        rw [e1, e2]
        cases r with
        | leaf => simp [Tr.list]
        | node a b d =>
          refine ⟨?_, rfl⟩
          simp only [Tr.even_list, Tr.first_list, Tr.list]

theorem insL_mem {x : α} {over : Bool} : ∀ {l : List α} {z : α}, z ∈ insL c x over l → z = x ∨ z ∈ l
  | [], z, h => by simp [insL] at h; exact .inl h
  | y :: t, z, h => by
    unfold insL at h
    split at h
    · rcases List.mem_cons.1 h with h | h
      · exact .inl h
      · exact .inr h
    · split at h
      · rcases List.mem_cons.1 h with h | h
        · exact .inr (h ▸ List.mem_cons_self ..)
        · exact (insL_mem h).imp_right (List.mem_cons_of_mem _)
      · rcases List.mem_cons.1 h with h | h
        · split at h
          · exact .inl h
          · exact .inr (h ▸ List.mem_cons_self ..)
        · exact .inr (List.mem_cons_of_mem _ h)
theorem insL_rises (h : Ord c) {x : α} {over : Bool} : ∀ {l : List α}, Rises c l → Rises c (insL c x over l)
  | [], _ => by simp [insL, Rises]
  | y :: t, hr => by
    obtain ⟨hy, ht⟩ := List.pairwise_cons.1 hr
    unfold insL
    split
    · rename_i h1
      refine List.pairwise_cons.2 ⟨fun z hz => ?_, hr⟩
      rcases List.mem_cons.1 hz with rfl | hz
      · exact h1
      · exact h.trans _ _ _ h1 (hy z hz)
    · split
      · rename_i h1 h2
        refine List.pairwise_cons.2 ⟨fun z hz => ?_, insL_rises h ht⟩
        rcases insL_mem hz with rfl | hz
        · exact (h.anti _ _).2 h2
        · exact hy z hz
      · rename_i h1 h2
        split
        · exact List.pairwise_cons.2 ⟨fun z hz => (h.left x y z (by omega)).2 (hy z hz), ht⟩
        · exact hr
theorem remL_mem {x : α} : ∀ {l : List α} {z : α}, z ∈ remL c x l → z ∈ l
  | [], z, h => h
  | y :: t, z, h => by
    unfold remL at h
    split at h
    · exact List.mem_cons_of_mem _ h
    · rcases List.mem_cons.1 h with h | h
      · exact h ▸ List.mem_cons_self ..
      · exact List.mem_cons_of_mem _ (remL_mem h)
theorem remL_rises {x : α} : ∀ {l : List α}, Rises c l → Rises c (remL c x l)
  | [], h => h
  | y :: t, hr => by
    obtain ⟨hy, ht⟩ := List.pairwise_cons.1 hr
    unfold remL
    split
    · exact ht
    · exact List.pairwise_cons.2 ⟨fun z hz => hy z (remL_mem hz), remL_rises ht⟩
theorem findL_has {x : α} : ∀ (l : List α), (findL c x l).isSome = hasL c x l
  | [] => rfl
  | y :: t => by
    unfold findL hasL
    split
    · rfl
    · exact findL_has t
theorem findL_mem {x y : α} : ∀ {l : List α}, findL c x l = some y → y ∈ l ∧ c x y = 0
  | [], h => by cases h
  | z :: t, h => by
    unfold findL at h
    split at h
    · rename_i h0
      cases h
      exact ⟨List.mem_cons_self .., h0⟩
    · exact ⟨List.mem_cons_of_mem _ (findL_mem h).1, (findL_mem h).2⟩
/-- what Find answers, by the way that it goes through the tree -/
def Tr.find (c : α → α → Int) (x : α) : Tr α → Option α
  | .leaf => none
  | .node l y r => if c x y < 0 then l.find c x else if 0 < c x y then r.find c x else some y
theorem find_list (h : Ord c) (x : α) : ∀ T : Tr α, Rises c T.list → T.find c x = findL c x T.list
  | .leaf, _ => rfl
  | .node l y r, hr => by
    obtain ⟨hl, hrr, hly, hyr⟩ := rises_parts hr
    unfold Tr.find
    simp only [Tr.list]
    rw [findL_append]
    by_cases h1 : c x y < 0
    · rw [if_pos h1, find_list h x l hl]
      have e : findL c x (y :: r.list) = none := findL_lt h fun z hz => by
        rcases List.mem_cons.1 hz with rfl | hz
        · exact h1
        · exact h.trans _ _ _ h1 (hyr z hz)
      rw [e, Option.or_none]
    · rw [if_neg h1]
      by_cases h2 : 0 < c x y
      · rw [if_pos h2, find_list h x r hrr]
        have hlx : ∀ z ∈ l.list, c z x < 0 := fun z hz => h.trans _ _ _ (hly z hz) ((h.anti y x).2 h2)
        rw [findL_gt h hlx]
        simp only [findL, Option.none_or]
        rw [if_neg (by omega)]
      · rw [if_neg h2]
        have h0 : c x y = 0 := by omega
        have hlx : ∀ z ∈ l.list, c z x < 0 := fun z hz => (h.right x y z h0).2 (hly z hz)
        rw [findL_gt h hlx]
        simp [findL, h0]
/-- what Nth answers -/
def Tr.nth : Tr α → Nat → Option α
  | .leaf, _ => none
  | .node l y r, i => if i < l.size then l.nth i else if i = l.size then some y else r.nth (i - l.size - 1)
theorem nth_list : ∀ (T : Tr α) (i : Nat), T.nth i = T.list[i]?
  | .leaf, _ => rfl
  | .node l y r, i => by
    unfold Tr.nth
    simp only [Tr.list]
    split
    · rw [List.getElem?_append_left (by rw [Tr.size_list]; exact ‹_›), nth_list l i]
    · rw [List.getElem?_append_right (by rw [Tr.size_list]; omega), Tr.size_list]
      split
      · rename_i h; subst h; simp
      · rename_i h1 h2
        obtain ⟨k, hk⟩ : ∃ k, i - l.size = k + 1 := ⟨i - l.size - 1, by omega⟩
        rw [hk, List.getElem?_cons_succ, Nat.add_sub_cancel, nth_list r k]
/-- what Rank answers -/
def Tr.rank (c : α → α → Int) (x : α) : Tr α → Nat
  | .leaf => 0
  | .node l y r => if c y x < 0 then l.size + 1 + r.rank c x else l.rank c x
theorem rank_list (h : Ord c) (x : α) : ∀ T : Tr α, Rises c T.list → T.rank c x = rankL c x T.list
  | .leaf, _ => rfl
  | .node l y r, hr => by
    obtain ⟨hl, hrr, hly, hyr⟩ := rises_parts hr
    unfold Tr.rank
    simp only [Tr.list, rankL, List.countP_append, List.countP_cons]
    split
    · rename_i h1
      rw [rank_list h x r hrr]
      have e : List.countP (fun y => decide (c y x < 0)) l.list = l.size := by
        rw [← Tr.size_list, List.countP_eq_length]
        intro z hz
        simpa using h.trans _ _ _ (hly z hz) h1
      simp only [rankL] at *
      rw [e]; simp [h1]; omega
    · rename_i h1
      rw [rank_list h x l hl]
      have e : List.countP (fun y => decide (c y x < 0)) r.list = 0 := by
        rw [List.countP_eq_zero]
        intro z hz hh
        have hh' : c z x < 0 := by simpa using hh
        exact h1 (h.trans _ _ _ (hyr z hz) hh')
      simp only [rankL] at *
      rw [e]; simp [h1]
/-- what From tells, by the way that it goes through the tree -/
def Tr.from_ (skip : α → Bool) : Tr α → List α
  | .leaf => []
  | .node l y r => if skip y = true then r.from_ skip else l.from_ skip ++ y :: r.from_ skip
theorem from_all : ∀ (T : Tr α), T.from_ (fun _ => false) = T.list
  | .leaf => rfl
  | .node l y r => by simp [Tr.from_, Tr.list, from_all l, from_all r]
theorem from_list (h : Ord c) (x : α) : ∀ T : Tr α, Rises c T.list → T.from_ (fun y => decide (c y x < 0)) = fromL c x T.list
  | .leaf, _ => rfl
  | .node l y r, hr => by
    obtain ⟨hl, hrr, hly, hyr⟩ := rises_parts hr
    unfold Tr.from_
    simp only [Tr.list, fromL, List.filter_append]
    by_cases h1 : c y x < 0
    · rw [if_pos (by simpa using h1), from_list h x r hrr]
      have e : List.filter (fun y => decide ¬c y x < 0) l.list = [] := by
        rw [List.filter_eq_nil_iff]
        intro z hz
        simpa using h.trans _ _ _ (hly z hz) h1
      rw [e, List.nil_append, List.filter_cons_of_neg (by simpa using h1)]
      rfl
    · rw [if_neg (by simpa using h1), from_list h x l hl, from_list h x r hrr, List.filter_cons_of_pos (by simpa using h1)]
      rfl
end Go.Proofs.Yteledidnhjioaaa.Sh
