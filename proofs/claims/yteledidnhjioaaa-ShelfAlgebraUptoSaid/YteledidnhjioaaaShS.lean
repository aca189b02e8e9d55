import Derived.Test.YteledidnhjioaaaShA
set_option linter.unusedSimpArgs false
set_option linter.unusedVariables false
namespace Go.Proofs.Yteledidnhjioaaa.Sh
variable {α : Type} {c : α → α → Int}
theorem Ord.self (h : Ord c) (x : α) : c x x = 0 := by have := h.anti x x; omega
theorem Ord.comm0 (h : Ord c) {x y : α} (e : c x y = 0) : c y x = 0 := by have h1 := h.anti x y; have h2 := h.anti y x; omega
theorem put_rises (h : Ord c) {x : α} {over : Bool} {T : Tr α} (hr : Rises c T.list) : Rises c (T.put c x over).1.list := by
  rw [(put_list h x over T hr).1]; exact insL_rises h hr
theorem out_rises (h : Ord c) {x : α} {T : Tr α} (hr : Rises c T.list) : Rises c (T.out c x).1.list := by
  rw [(out_list h x T hr).1]; exact remL_rises hr
theorem findL_ins (h : Ord c) {x : α} : ∀ {l : List α}, Rises c l → findL c x (insL c x true l) = some x
  | [], _ => by simp [insL, findL, h.self]
  | y :: t, hr => by
    unfold insL
    split
    · simp [findL, h.self]
    · split
      · rename_i h1 h2
        simp only [findL]
        rw [if_neg (by omega)]
        exact findL_ins h (List.pairwise_cons.1 hr).2
      · simp [findL, h.self]
theorem findL_rem (h : Ord c) {x : α} : ∀ {l : List α}, Rises c l → findL c x (remL c x l) = none
  | [], _ => rfl
  | y :: t, hr => by
    obtain ⟨hy, ht⟩ := List.pairwise_cons.1 hr
    unfold remL
    split
    · rename_i h0
      exact findL_lt h fun z hz => (h.left x y z h0).2 (hy z hz)
    · rename_i h0
      simp only [findL]
      rw [if_neg h0]
      exact findL_rem h ht
theorem put_find (h : Ord c) {x : α} {T : Tr α} (hr : Rises c T.list) : (T.put c x true).1.find c x = some x := by
  rw [find_list h x _ (put_rises h hr), (put_list h x true T hr).1]; exact findL_ins h hr
theorem out_find (h : Ord c) {x : α} {T : Tr α} (hr : Rises c T.list) : (T.out c x).1.find c x = none := by
  rw [find_list h x _ (out_rises h hr), (out_list h x T hr).1]; exact findL_rem h hr
/-- an element that stands at place i -/
theorem at_place (h : Ord c) : ∀ {l : List α} {i : Nat} {y : α}, Rises c l → l[i]? = some y → rankL c y l = i ∧ (∀ z, c z y = 0 → findL c z l = some y) ∧ insL c y false l = l ∧ hasL c y l = true
  | x :: t, 0, y, hr, hi => by
    simp at hi; subst hi
    obtain ⟨hy, ht⟩ := List.pairwise_cons.1 hr
    refine ⟨?_, fun z hz => by simp [findL, hz], ?_, by simp [hasL, h.self]⟩
    · unfold rankL
      rw [List.countP_eq_zero]
      intro z hz
      rcases List.mem_cons.1 hz with rfl | hz
      · simp [h.self]
      · have := (h.anti x z).1 (hy z hz)
        simp; omega
    · simp [insL, h.self]
  | x :: t, i + 1, y, hr, hi => by
    obtain ⟨hy, ht⟩ := List.pairwise_cons.1 hr
    obtain ⟨h1, h2, h3, h4⟩ := at_place h ht (by simpa using hi)
    have hm : y ∈ t := List.mem_iff_getElem?.2 ⟨i, by simpa using hi⟩
    have hxy := hy y hm
    have hyx := (h.anti _ _).1 hxy
    refine ⟨?_, fun z hz => ?_, ?_, ?_⟩
    · unfold rankL at *
      rw [List.countP_cons, h1]; simp [hxy]
    · have hzx : c z x ≠ 0 := fun e => by
        have e2 := (h.left z x y e).2 hxy
        omega
      simp only [findL]; rw [if_neg hzx]; exact h2 z hz
    · simp only [insL]; rw [if_neg (by omega), if_pos hyx, h3]
    · simp only [hasL]; rw [if_neg (by omega)]; exact h4
theorem rises_at (h : Ord c) {l : List α} {i j : Nat} {x y : α} (hr : Rises c l) (hij : i < j) (hx : l[i]? = some x) (hy : l[j]? = some y) : c x y < 0 := by
  obtain ⟨hi, rfl⟩ := List.getElem?_eq_some_iff.1 hx
  obtain ⟨hj, rfl⟩ := List.getElem?_eq_some_iff.1 hy
  exact List.pairwise_iff_getElem.1 hr i j hi hj hij
/-- what is not below is what is left behind those that are -/
theorem from_drop (h : Ord c) (x : α) : ∀ {l : List α}, Rises c l → fromL c x l = l.drop (rankL c x l)
  | [], _ => rfl
  | y :: t, hr => by
    obtain ⟨hy, ht⟩ := List.pairwise_cons.1 hr
    have ih := from_drop h x ht
    unfold fromL rankL at *
    by_cases h1 : c y x < 0
    · rw [List.filter_cons_of_neg (by simpa using h1), List.countP_cons_of_pos (by simpa using h1), List.drop_succ_cons]
      exact ih
    · have hz : List.countP (fun y => decide (c y x < 0)) t = 0 := by
        rw [List.countP_eq_zero]
        intro z hz hc
        have hc' : c z x < 0 := by simpa using hc
        exact h1 (h.trans _ _ _ (hy z hz) hc')
      rw [List.filter_cons_of_pos (by simpa using h1), List.countP_cons_of_neg (by simpa using h1), hz, List.drop_zero]
      rw [hz, List.drop_zero] at ih
      rw [ih]
theorem rankL_take (x : α) (l : List α) (k : Nat) : rankL c x (l.take k) ≤ k := by
  have := List.countP_le_length (p := fun y => decide (c y x < 0)) (l := l.take k)
  have h2 := List.length_take_le k l
  unfold rankL; omega
theorem rankL_snoc (x y : α) (l : List α) : rankL c x (l ++ [y]) = if c y x < 0 then rankL c x l + 1 else rankL c x l := by
  unfold rankL
  rw [List.countP_append, List.countP_cons, List.countP_nil]
  by_cases h : c y x < 0 <;> simp [h]
theorem same_again (h : Ord c) {T : Tr α} {y : α} {i : Nat} (hr : Rises c T.list) (hi : T.list[i]? = some y) : (T.put c y false).1.list = T.list ∧ (T.put c y false).2 = true := by
  obtain ⟨a, b⟩ := put_list h y false T hr
  obtain ⟨_, _, h3, h4⟩ := at_place h hr hi
  exact ⟨a.trans h3, b.trans h4⟩
end Go.Proofs.Yteledidnhjioaaa.Sh
/-! What the document's own lists do, place by place. -/
namespace Go.Proofs.Yteledidnhjioaaa.Sh
variable {α : Type} {c : α → α → Int}
set_option linter.unusedVariables false
theorem rankL_cons (x y : α) (t : List α) : rankL c x (y :: t) = rankL c x t + (if c y x < 0 then 1 else 0) := by
  unfold rankL
  rw [List.countP_cons]
  simp
/-- all that lies behind one that is not below is not below -/
theorem rankL_zero (h : Ord c) {x y : α} {t : List α} (hr : Rises c (y :: t)) (hy : ¬ c y x < 0) : rankL c x t = 0 := by
  unfold rankL
  rw [List.countP_eq_zero]
  intro z hz hzx
  have hyz : c y z < 0 := (List.pairwise_cons.1 hr).1 z hz
  exact hy (h.trans y z x hyz (of_decide_eq_true hzx))
theorem hasL_not (h : Ord c) {x y : α} {t : List α} (hr : Rises c (y :: t)) (hy : 0 < c y x) : hasL c x (y :: t) = false := by
  refine hasL_lt h (fun z hz => ?_)
  have hxy : c x y < 0 := (h.anti x y).2 hy
  rcases List.mem_cons.1 hz with rfl | hz
  · exact hxy
  · exact h.trans x y z hxy ((List.pairwise_cons.1 hr).1 z hz)
/-- a new one is put in at its rank -/
theorem insL_new (h : Ord c) {x : α} {over : Bool} : ∀ {l : List α}, Rises c l → hasL c x l = false → insL c x over l = l.take (rankL c x l) ++ x :: l.drop (rankL c x l)
  | [], _, _ => by simp [insL, rankL]
  | y :: t, hr, hn => by
    unfold hasL at hn
    have h0 : ¬ c x y = 0 := fun e => by rw [if_pos e] at hn; cases hn
    rw [if_neg h0] at hn
    have ha := h.anti x y
    have hb := h.anti y x
    unfold insL
    by_cases h1 : c x y < 0
    · have hy : ¬ c y x < 0 := fun e => by have := ha.1 h1; omega
      rw [if_pos h1, rankL_cons, if_neg hy, rankL_zero h hr hy]
      simp
    · have h2 : 0 < c x y := by omega
      have hy : c y x < 0 := hb.2 h2
      rw [if_neg h1, if_pos h2, rankL_cons, if_pos hy, insL_new h (List.pairwise_cons.1 hr).2 hn]
      simp
/-- one that is there: its place is its rank -/
theorem hasL_at (h : Ord c) {x : α} : ∀ {l : List α}, Rises c l → hasL c x l = true → ∃ y, l[rankL c x l]? = some y ∧ c x y = 0 ∧ findL c x l = some y ∧ ∀ over, insL c x over l = l.set (rankL c x l) (if over = true then x else y)
  | [], _, hn => by cases hn
  | y :: t, hr, hn => by
    have ha := h.anti x y
    have hb := h.anti y x
    by_cases h0 : c x y = 0
    · have hy : ¬ c y x < 0 := by omega
      refine ⟨y, ?_, h0, by unfold findL; rw [if_pos h0], fun over => ?_⟩
      · rw [rankL_cons, if_neg hy, rankL_zero h hr hy]; rfl
      · unfold insL
        rw [if_neg (by omega), if_neg (by omega), rankL_cons, if_neg hy, rankL_zero h hr hy]
        rfl
    · unfold hasL at hn
      rw [if_neg h0] at hn
      have hy : c y x < 0 := by
        by_cases h1 : c x y < 0
        · have h2 := hasL_not h hr (ha.1 h1)
          unfold hasL at h2
          rw [if_neg h0, hn] at h2
          cases h2
        · omega
      obtain ⟨z, hz, hc, hf, hi⟩ := hasL_at h (List.pairwise_cons.1 hr).2 hn
      refine ⟨z, ?_, hc, by unfold findL; rw [if_neg h0]; exact hf, fun over => ?_⟩
      · rw [rankL_cons, if_pos hy]; exact hz
      · unfold insL
        rw [if_neg (by omega), if_pos (by omega), rankL_cons, if_pos hy, hi over]
        rfl
/-- the place of the one that is like; -1: there is none -/
def atL (c : α → α → Int) (x : α) (l : List α) : Int := if hasL c x l = true then (rankL c x l : Int) else -1
theorem hasL_of (c : α → α → Int) {x y : α} : ∀ {l : List α} {i : Nat}, l[i]? = some y → c x y = 0 → hasL c x l = true
  | [], _, hi, _ => by simp at hi
  | z :: t, i, hi, h0 => by
    unfold hasL
    split
    · rfl
    · cases i with
      | zero => simp at hi; subst hi; contradiction
      | succ i => exact hasL_of c (l := t) (i := i) (by simpa using hi) h0
theorem hasL_none (c : α → α → Int) {x : α} : ∀ {l : List α}, (∀ (i : Nat) (y : α), l[i]? = some y → ¬ c x y = 0) → hasL c x l = false
  | [], _ => rfl
  | z :: t, hl => by
    unfold hasL
    rw [if_neg (hl 0 z rfl)]
    exact hasL_none c fun i y hi => hl (i + 1) y (by simpa using hi)
theorem atL_at (h : Ord c) {x y : α} {l : List α} (hr : Rises c l) {k : Nat} (hk : l[k]? = some y) (h0 : c x y = 0) : atL c x l = k := by
  have hh := hasL_of c hk h0
  obtain ⟨z, hz, hc, _⟩ := hasL_at h hr hh
  unfold atL
  rw [if_pos hh]
  by_cases e : rankL c x l = k
  · rw [e]
  · exfalso
    have hlt : rankL c x l < k ∨ k < rankL c x l := by omega
    rcases hlt with hlt | hlt
    · have := rises_at h hr hlt hz hk
      have h1 := h.left x z y hc
      omega
    · have := rises_at h hr hlt hk hz
      have h1 := h.left x y z h0
      omega
theorem atL_none {x : α} {l : List α} (hl : hasL c x l = false) : atL c x l = -1 := by unfold atL; rw [hl]; rfl
/-- one that is taken out -/
theorem remL_at (h : Ord c) {x : α} : ∀ {l : List α}, Rises c l → remL c x l = if hasL c x l = true then l.eraseIdx (rankL c x l) else l
  | [], _ => rfl
  | y :: t, hr => by
    have ha := h.anti x y
    have hb := h.anti y x
    unfold remL hasL
    by_cases h0 : c x y = 0
    · have hy : ¬ c y x < 0 := by omega
      rw [if_pos h0, if_pos h0, rankL_cons, if_neg hy, rankL_zero h hr hy]
      rfl
    · rw [if_neg h0, if_neg h0, remL_at h (List.pairwise_cons.1 hr).2]
      by_cases hh : hasL c x t = true
      · have hy : c y x < 0 := by
          by_cases h1 : c x y < 0
          · have h2 := hasL_not h hr (ha.1 h1)
            unfold hasL at h2
            rw [if_neg h0, hh] at h2
            cases h2
          · omega
        rw [if_pos hh, if_pos hh, rankL_cons, if_pos hy]
        rfl
      · rw [if_neg hh, if_neg hh]
end Go.Proofs.Yteledidnhjioaaa.Sh
