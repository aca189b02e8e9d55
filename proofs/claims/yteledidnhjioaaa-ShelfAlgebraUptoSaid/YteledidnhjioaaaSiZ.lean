import Derived.Test.YteledidnhjioaaaSiW
import Derived.Test.YteledidnhjioaaaSiA
namespace Go.Proofs.Yteledidnhjioaaa.Sh
open Go.RowKit Go.Lib Go.Proofs Go.Shelf
set_option linter.unusedVariables false
set_option linter.unusedSimpArgs false
def foldP (xs : List (Int × Int)) : List (Int × Int) := xs.foldl (fun acc x => insL cmpR x false acc) []
theorem foldP_snoc (xs : List (Int × Int)) (x : Int × Int) : foldP (xs ++ [x]) = insL cmpR x false (foldP xs) := by simp [foldP]
theorem foldP_rises (xs : List (Int × Int)) : Rises cmpR (foldP xs) := (rises_iff _).2 (fold_mem (0, 0) xs [] List.Pairwise.nil).1
theorem foldP_length (xs : List (Int × Int)) : (foldP xs).length ≤ xs.length := by
  suffices ∀ (xs acc : List (Int × Int)), (xs.foldl (fun acc x => insL cmpR x false acc) acc).length ≤ acc.length + xs.length by simpa [foldP] using this xs []
  intro xs
  induction xs with
  | nil => intro acc; simp
  | cons x t ih =>
    intro acc
    have h : ∀ l : List (Int × Int), (insL cmpR x false l).length ≤ l.length + 1 := fun l => by
      induction l with
      | nil => simp [insL]
      | cons y s ih2 => unfold insL; split <;> (try split) <;> simp <;> omega
    have h1 := ih (insL cmpR x false acc)
    have h2 := h acc
    simp only [List.foldl_cons, List.length_cons]
    omega
set_option maxRecDepth 100000 in
set_option maxHeartbeats 8000000 in
theorem join_ref {ls : List (List (Int × Int))} {w : World} {b0 cap : Nat} (hA : ∀ (i : Nat) (l : List (Int × Int)), ls[i]? = some l → ∃ A c, w.cell? ⟨b0, i, none⟩ = some (.slice A l.length c) ∧ SliceAt w A c l) (hcap : ls.length ≤ cap) (hls : ls.length ≤ 1000) (hz : ls.flatten.length ≤ 13999999999998) :
    Calls Try.prog 52 #[.slice (some ⟨b0, 0, none⟩) ls.length cap] w fun e V => ∃ v, e = .returned v ∧ V.ownsRow w.heap.size 27 2 v (joinR ls).length (flat (joinR ls)) ∧ Later w V := by
  obtain ⟨N, hN⟩ : ∃ N, ls.length = N := ⟨_, rfl⟩
  rw [hN] at hcap hls ⊢
  have hN1 : ls.length ≤ N := by omega
  replace hN := hid hN
  go_enter Try.func52, Try.ntmps52
  go_wp2_with fail
  go_loopw [3, 4] (fun v i wr => ∃ k : Nat, k ≤ N ∧ i = .int .i64 k ∧ wr.ownsRow w.heap.size 27 2 v (foldP (ls.take k).flatten).length (flat (foldP (ls.take k).flatten)) ∧ Later w wr) (fun _ i _ => N - (intOf i).toNat)
  case atStart => exact ⟨0, Nat.zero_le _, rfl, World.ownsRow_nil .., Later.refl _⟩
  case round =>
    obtain ⟨k, hk, rfl, hrow, hlw⟩ := hrel
    by_cases hlt : k < N
    · obtain ⟨l, hl⟩ : ∃ l, ls[k]? = some l := ⟨_, List.getElem?_eq_getElem (by have := hN.out; omega)⟩
      obtain ⟨A, c, hc, hs⟩ := hA k l hl
      obtain ⟨n, hn⟩ : ∃ n, l.length = n := ⟨_, rfl⟩
      have hsn : (ls.take (k + 1)).flatten = (ls.take k).flatten ++ l := by rw [take_snoc hl, List.flatten_append]; simp
      have hlz : ((ls.take k).flatten ++ l).length ≤ 13999999999998 := by
        rw [← hsn]
        have e : ls.flatten.length = ((ls.take (k + 1)).flatten).length + ((ls.drop (k + 1)).flatten).length := by rw [← List.length_append, ← List.flatten_append, List.take_append_drop]
        omega
      obtain ⟨F, hF⟩ : ∃ F, (ls.take k).flatten = F := ⟨_, rfl⟩
      rw [hF] at hrow hsn hlz
      rw [hn] at hc
      have hcn : n ≤ c := by rw [← hn]; exact hs.1
      have hc' := hlw.cell hc
      have hn1 : l.length ≤ n := by omega
      have hnz : n ≤ 13999999999998 := by rw [List.length_append] at hlz; omega
      replace hn := hid hn
      replace hsn := hid hsn
      clear hA hc hF
      go_wp2_with fail
      generalize wr = W1 at hrow hlw hc' ⊢
      go_loopw [3, 5] (fun v i wr => ∃ j : Nat, j ≤ n ∧ i = .int .i64 j ∧ wr.ownsRow w.heap.size 27 2 v (foldP (F ++ l.take j)).length (flat (foldP (F ++ l.take j))) ∧ Later w wr ∧ Later W1 wr) (fun _ i _ => n - (intOf i).toNat)
      case atStart => exact ⟨0, Nat.zero_le _, rfl, by rw [List.take_zero, List.append_nil]; exact hrow, hlw, Later.refl _⟩
      case round =>
        obtain ⟨j, hj, rfl, hrow2, hlw2, hlW⟩ := hrel
        have hcw := hlW.cell hc'
        by_cases hlt2 : j < n
        · obtain ⟨x, hx⟩ : ∃ x, l[j]? = some x := ⟨_, List.getElem?_eq_getElem (by have := hn.out; omega)⟩
          obtain ⟨p, o, rfl, c0, c1⟩ := (hs.later hlw2).2.2 _ _ hx
          have hfl : (foldP (F ++ l.take j)).length ≤ 13999999999998 := Nat.le_trans (foldP_length _) (by rw [List.length_append] at hlz ⊢; rw [List.length_take]; omega)
          obtain ⟨A2, cap2, rfl, hs2, _⟩ := row_slice2 hrow2 (by omega) rfl
          have hput := put_ref x false hs2 (foldP_rises _) hfl
          have hts : foldP (F ++ l.take (j + 1)) = insL cmpR x false (foldP (F ++ l.take j)) := by rw [take_snoc hx, ← List.append_assoc, foldP_snoc]
          replace hts := hid hts
          have hjn : (j : Int) < (n : Int) := by omega
          clear hx hrow2
          go_wp2_with fail
          go_at_call 46; refine hput.mono ?_; rintro e w1 ⟨v, rfl, hrow3, l1⟩
          go_wp2_with fail
          exact ⟨⟨j + 1, by omega, by go_num, by rw [hts.out]; exact own_lower hrow3 hlw2.size, hlw2.next l1, hlW.next l1⟩, by simp [intOf]; omega⟩
        · obtain rfl : j = n := by omega
          rw [List.take_of_length_le hn1] at hrow2
          go_wp2_with fail
          go_roundw
          case rel => exact ⟨k + 1, by omega, by go_num, by rw [hsn.out]; exact hrow2, hlw2⟩
          case measure => simp [intOf]; omega
    · obtain rfl : k = N := by omega
      rw [List.take_of_length_le hN1] at hrow
      go_wp2_with fail
      go_ret
      exact ⟨_, rfl, hrow, hlw⟩
end Go.Proofs.Yteledidnhjioaaa.Sh
namespace Go.Proofs.Yteledidnhjioaaa.Sh
set_option linter.unusedVariables false
set_option linter.unusedSimpArgs false
/-! ### ShelfAlgebra, the plain law -/
theorem findL_first (x : Int × Int) : ∀ l : List (Int × Int), findL cmpR x l = firstK x.1 l
  | [] => rfl
  | y :: t => by
    by_cases h : x.1 = y.1
    · rw [findL, if_pos ((cmpR_eq _ _).2 h), firstK, List.find?_cons_of_pos (by simp [h])]
    · rw [findL, if_neg (fun e => h ((cmpR_eq _ _).1 e)), firstK, List.find?_cons_of_neg (by simp; exact fun e => h e.symm)]
      exact findL_first x t
theorem hasL_first (x : Int × Int) (l : List (Int × Int)) : hasL cmpR x l = (firstK x.1 l).isSome := by
  rw [← findL_first, findL_has]
theorem firstK_mem {k : Int} {l : List (Int × Int)} {w : Int × Int} (h : firstK k l = some w) : w ∈ l ∧ w.1 = k := by
  refine ⟨List.mem_of_find?_eq_some h, ?_⟩
  have := List.find?_some h
  simpa using this
theorem mem_join {z : Int × Int} {ls : List (List (Int × Int))} : z ∈ joinR ls ↔ firstK z.1 ls.flatten = some z := by
  have := (fold_mem z ls.flatten [] List.Pairwise.nil).2
  simpa [joinR, firstK] using this
theorem join_rises (ls : List (List (Int × Int))) : RisesR (joinR ls) := (fold_mem (0, 0) ls.flatten [] List.Pairwise.nil).1
theorem first_join (k : Int) (ls : List (List (Int × Int))) : firstK k (joinR ls) = firstK k ls.flatten := by
  cases h : firstK k ls.flatten with
  | some w =>
    obtain ⟨h1, rfl⟩ := firstK_mem h
    exact first_eq (join_rises ls) (mem_join.2 h)
  | none =>
    cases h2 : firstK k (joinR ls) with
    | none => rfl
    | some w =>
      obtain ⟨h1, rfl⟩ := firstK_mem h2
      rw [mem_join.1 h1] at h
      cases h
theorem join_left (x y z : List (Int × Int)) : joinR [joinR [x, y], z] = joinR [x, y, z] := by
  refine rises_ext (join_rises _) (join_rises _) fun e => ?_
  rw [mem_join, mem_join]
  have h := first_join e.1 [x, y]
  simp only [List.flatten_cons, List.flatten_nil, List.append_nil] at h ⊢
  rw [firstK, List.find?_append, ← firstK, h, firstK, ← List.find?_append, List.append_assoc]
theorem join_right (x y z : List (Int × Int)) : joinR [x, joinR [y, z]] = joinR [x, y, z] := by
  refine rises_ext (join_rises _) (join_rises _) fun e => ?_
  rw [mem_join, mem_join]
  have h := first_join e.1 [y, z]
  simp only [List.flatten_cons, List.flatten_nil, List.append_nil] at h ⊢
  rw [firstK, List.find?_append, ← firstK, ← firstK, h, firstK, firstK, ← List.find?_append]
theorem rises_filter {l : List (Int × Int)} (h : RisesR l) (p : (Int × Int) → Bool) : RisesR (l.filter p) := List.Pairwise.sublist (List.filter_sublist) h
theorem both_mem {x y : List (Int × Int)} (hx : RisesR x) {p : Int × Int} (h : p ∈ x.filter fun e => hasL cmpR e y) : (∃ q, firstK p.1 y = some q ∧ q.1 = p.1) ∧ firstK p.1 x = some p := by
  obtain ⟨h1, h2⟩ := List.mem_filter.1 h
  rw [hasL_first] at h2
  obtain ⟨q, hq⟩ := Option.isSome_iff_exists.1 h2
  exact ⟨⟨q, hq, (firstK_mem hq).2⟩, first_eq hx h1⟩
theorem rest_mem {x y : List (Int × Int)} (hx : RisesR x) {p : Int × Int} (h : p ∈ x.filter fun e => !hasL cmpR e y) : firstK p.1 y = none ∧ firstK p.1 x = some p := by
  obtain ⟨h1, h2⟩ := List.mem_filter.1 h
  rw [hasL_first] at h2
  exact ⟨by simpa using h2, first_eq hx h1⟩
theorem join_mem {x y : List (Int × Int)} {p : Int × Int} (h : p ∈ joinR [x, y]) : firstK p.1 x = some p ∨ (firstK p.1 x = none ∧ firstK p.1 y = some p) := by
  have h1 := mem_join.1 h
  simp only [List.flatten_cons, List.flatten_nil, List.append_nil] at h1
  rw [firstK, List.find?_append, ← firstK, ← firstK] at h1
  cases h2 : firstK p.1 x with
  | some w => rw [h2] at h1; left; simpa using h1
  | none => rw [h2] at h1; right; exact ⟨rfl, by simpa using h1⟩
theorem filter_parts (p : (Int × Int) → Bool) : ∀ l : List (Int × Int), (l.filter p).length + (l.filter fun e => !p e).length = l.length
  | [] => rfl
  | x :: t => by
    have := filter_parts p t
    cases hp : p x
    · simp [List.filter_cons, hp]; omega
    · simp [List.filter_cons, hp]; omega
theorem keys_rises {l : List (Int × Int)} (h : RisesR l) : RisesR (l.map fun e => (e.1, (0 : Int))) := by
  unfold RisesR
  rw [List.pairwise_map]
  exact h
theorem common {x y : List (Int × Int)} (hx : RisesR x) (hy : RisesR y) : (x.filter fun e => hasL cmpR e y).length = (y.filter fun e => hasL cmpR e x).length := by
  have h := rises_ext (keys_rises (rises_filter hx fun e => hasL cmpR e y)) (keys_rises (rises_filter hy fun e => hasL cmpR e x)) (fun z => by
    simp only [List.mem_map, List.mem_filter, hasL_first]
    constructor
    · rintro ⟨e, ⟨h1, h2⟩, rfl⟩
      obtain ⟨q, hq⟩ := Option.isSome_iff_exists.1 h2
      obtain ⟨q1, q2⟩ := firstK_mem hq
      exact ⟨q, ⟨q1, by rw [q2, first_eq hx h1]; rfl⟩, by rw [q2]⟩
    · rintro ⟨e, ⟨h1, h2⟩, rfl⟩
      obtain ⟨q, hq⟩ := Option.isSome_iff_exists.1 h2
      obtain ⟨q1, q2⟩ := firstK_mem hq
      exact ⟨q, ⟨q1, by rw [q2, first_eq hy h1]; rfl⟩, by rw [q2]⟩)
  have := congrArg List.length h
  simpa using this
theorem other_parts {x y : List (Int × Int)} (hx : RisesR x) (hy : RisesR y) : (x.filter fun e => hasL cmpR e y).length + (y.filter fun e => !hasL cmpR e x).length = y.length := by
  rw [common hx hy]
  exact filter_parts (fun e => hasL cmpR e x) y
theorem join_length {x y : List (Int × Int)} (hx : RisesR x) (hy : RisesR y) : (joinR [x, y]).length = x.length + (y.filter fun e => !hasL cmpR e x).length := by
  have h1 : (joinR [x, y]).filter (fun e => hasL cmpR e x) = x := rises_ext (rises_filter (join_rises _) _) hx (fun z => by
    rw [List.mem_filter, hasL_first]
    constructor
    · rintro ⟨a, b⟩
      rcases join_mem a with h | ⟨h, _⟩
      · exact (firstK_mem h).1
      · rw [h] at b; cases b
    · intro hz
      have := first_eq hx hz
      refine ⟨mem_join.2 ?_, by rw [this]; rfl⟩
      simp only [List.flatten_cons, List.flatten_nil, List.append_nil]
      rw [firstK, List.find?_append, ← firstK, this]
      rfl)
  have h2 : (joinR [x, y]).filter (fun e => !hasL cmpR e x) = y.filter fun e => !hasL cmpR e x := rises_ext (rises_filter (join_rises _) _) (rises_filter hy _) (fun z => by
    simp only [List.mem_filter, hasL_first]
    constructor
    · rintro ⟨a, b⟩
      rcases join_mem a with h | ⟨_, h⟩
      · rw [h] at b; cases b
      · exact ⟨(firstK_mem h).1, b⟩
    · rintro ⟨a, b⟩
      have h0 : firstK z.1 x = none := by simpa using b
      refine ⟨mem_join.2 ?_, b⟩
      simp only [List.flatten_cons, List.flatten_nil, List.append_nil]
      rw [firstK, List.find?_append, ← firstK, h0, ← firstK, first_eq hy a]
      rfl)
  have := filter_parts (fun e => hasL cmpR e x) (joinR [x, y])
  rw [h1, h2] at this
  exact this.symm
theorem join_len_le (ls : List (List (Int × Int))) : (joinR ls).length ≤ ls.flatten.length := foldP_length ls.flatten
theorem join2 (x y : List (Int × Int)) (hx : RisesR x) (hy : RisesR y) {n : Nat} (hn : ([x, y] : List (List (Int × Int))).flatten.length ≤ n) : mergeN n [x, y] = joinR [x, y] :=
  merge_join (fun q hq => by simp only [List.mem_cons, List.not_mem_nil, or_false] at hq; rcases hq with rfl | rfl <;> assumption) hn
theorem join3 (x y z : List (Int × Int)) (hx : RisesR x) (hy : RisesR y) (hz : RisesR z) {n : Nat} (hn : ([x, y, z] : List (List (Int × Int))).flatten.length ≤ n) : mergeN n [x, y, z] = joinR [x, y, z] :=
  merge_join (fun q hq => by simp only [List.mem_cons, List.not_mem_nil, or_false] at hq; rcases hq with rfl | rfl | rfl <;> assumption) hn
end Go.Proofs.Yteledidnhjioaaa.Sh
