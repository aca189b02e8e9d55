import Derived.Test.YteledidnhjioaaaSiW
import Derived.Test.YteledidnhjioaaaSiA
namespace Go.Proofs.Yteledidnhjioaaa.Sh
open Go.RowKit Go.Lib Go.Proofs Go.Shelf
set_option linter.unusedVariables false
set_option linter.unusedSimpArgs false
def foldP (xs : List (Int × Int)) : List (Int × Int) := xs.foldl (fun acc x => insL cmpR x false acc) []
theorem foldP_snoc (xs : List (Int × Int)) (x : Int × Int) : foldP (xs ++ [x]) = insL cmpR x false (foldP xs) := by simp [foldP]
theorem foldP_rises (xs : List (Int × Int)) : Rises cmpR (foldP xs) := (rises_iff _).2 (fold_mem (0, 0) xs [] List.Pairwise.nil).1
theorem foldP_length (xs : List (Int × Int)) : (foldP xs).length ≤ xs.length := by
  suffices ∀ (xs acc : List (Int × Int)), (xs.foldl (fun acc x => insL cmpR x false acc) acc).length ≤ acc.length + xs.length by simpa [foldP] using this xs []
  intro xs
  induction xs with
  | nil => intro acc; simp
  | cons x t ih =>
    intro acc
    have h : ∀ l : List (Int × Int), (insL cmpR x false l).length ≤ l.length + 1 := fun l => by
      induction l with
      | nil => simp [insL]
      | cons y s ih2 => unfold insL; split <;> (try split) <;> simp <;> omega
    have h1 := ih (insL cmpR x false acc)
    have h2 := h acc
    simp only [List.foldl_cons, List.length_cons]
    omega
set_option maxRecDepth 100000 in
set_option maxHeartbeats 8000000 in
theorem join_ref {ls : List (List (Int × Int))} {w : World} {b0 cap : Nat} (hA : ∀ (i : Nat) (l : List (Int × Int)), ls[i]? = some l → ∃ A c, w.cell? ⟨b0, i, none⟩ = some (.slice A l.length c) ∧ SliceAt w A c l) (hcap : ls.length ≤ cap) (hls : ls.length ≤ 1000) (hz : ls.flatten.length ≤ 13999999999998) :
    Calls Try.prog 52 #[.slice (some ⟨b0, 0, none⟩) ls.length cap] w fun e V => ∃ v, e = .returned v ∧ V.ownsRow w.heap.size 27 2 v (joinR ls).length (flat (joinR ls)) ∧ Later w V := by
  obtain ⟨N, hN⟩ : ∃ N, ls.length = N := ⟨_, rfl⟩
  rw [hN] at hcap hls ⊢
  have hN1 : ls.length ≤ N := by omega
  replace hN := hid hN
  go_enter Try.func52, Try.ntmps52
  go_wp2_with fail
  go_loopw [3, 4] (fun v i wr => ∃ k : Nat, k ≤ N ∧ i = .int .i64 k ∧ wr.ownsRow w.heap.size 27 2 v (foldP (ls.take k).flatten).length (flat (foldP (ls.take k).flatten)) ∧ Later w wr) (fun _ i _ => N - (intOf i).toNat)
  case atStart => exact ⟨0, Nat.zero_le _, rfl, World.ownsRow_nil .., Later.refl _⟩
  case round =>
    obtain ⟨k, hk, rfl, hrow, hlw⟩ := hrel
    by_cases hlt : k < N
    · obtain ⟨l, hl⟩ : ∃ l, ls[k]? = some l := ⟨_, List.getElem?_eq_getElem (by have := hN.out; omega)⟩
      obtain ⟨A, c, hc, hs⟩ := hA k l hl
      obtain ⟨n, hn⟩ : ∃ n, l.length = n := ⟨_, rfl⟩
      have hsn : (ls.take (k + 1)).flatten = (ls.take k).flatten ++ l := by rw [take_snoc hl, List.flatten_append]; simp
      have hlz : ((ls.take k).flatten ++ l).length ≤ 13999999999998 := by
        rw [← hsn]
        have e : ls.flatten.length = ((ls.take (k + 1)).flatten).length + ((ls.drop (k + 1)).flatten).length := by rw [← List.length_append, ← List.flatten_append, List.take_append_drop]
        omega
      obtain ⟨F, hF⟩ : ∃ F, (ls.take k).flatten = F := ⟨_, rfl⟩
      rw [hF] at hrow hsn hlz
      rw [hn] at hc
      have hcn : n ≤ c := by rw [← hn]; exact hs.1
      have hc' := hlw.cell hc
      have hn1 : l.length ≤ n := by omega
      have hnz : n ≤ 13999999999998 := by rw [List.length_append] at hlz; omega
      replace hn := hid hn
      replace hsn := hid hsn
      clear hA hc hF
      go_wp2_with fail
      generalize wr = W1 at hrow hlw hc' ⊢
      go_loopw [3, 5] (fun v i wr => ∃ j : Nat, j ≤ n ∧ i = .int .i64 j ∧ wr.ownsRow w.heap.size 27 2 v (foldP (F ++ l.take j)).length (flat (foldP (F ++ l.take j))) ∧ Later w wr ∧ Later W1 wr) (fun _ i _ => n - (intOf i).toNat)
      case atStart => exact ⟨0, Nat.zero_le _, rfl, by rw [List.take_zero, List.append_nil]; exact hrow, hlw, Later.refl _⟩
      case round =>
        obtain ⟨j, hj, rfl, hrow2, hlw2, hlW⟩ := hrel
        have hcw := hlW.cell hc'
        by_cases hlt2 : j < n
        · obtain ⟨x, hx⟩ : ∃ x, l[j]? = some x := ⟨_, List.getElem?_eq_getElem (by have := hn.out; omega)⟩
          obtain ⟨p, o, rfl, c0, c1⟩ := (hs.later hlw2).2.2 _ _ hx
          have hfl : (foldP (F ++ l.take j)).length ≤ 13999999999998 := Nat.le_trans (foldP_length _) (by rw [List.length_append] at hlz ⊢; rw [List.length_take]; omega)
          obtain ⟨A2, cap2, rfl, hs2, _⟩ := row_slice2 hrow2 (by omega) rfl
          have hput := put_ref x false hs2 (foldP_rises _) hfl
          have hts : foldP (F ++ l.take (j + 1)) = insL cmpR x false (foldP (F ++ l.take j)) := by rw [take_snoc hx, ← List.append_assoc, foldP_snoc]
          replace hts := hid hts
          have hjn : (j : Int) < (n : Int) := by omega
          clear hx hrow2
          go_wp2_with fail
          go_at_call 46; refine hput.mono ?_; rintro e w1 ⟨v, rfl, hrow3, l1⟩
          go_wp2_with fail
          exact ⟨⟨j + 1, by omega, by go_num, by rw [hts.out]; exact own_lower hrow3 hlw2.size, hlw2.next l1, hlW.next l1⟩, by simp [intOf]; omega⟩
        · obtain rfl : j = n := by omega
          rw [List.take_of_length_le hn1] at hrow2
          go_wp2_with fail
          go_roundw
          case rel => exact ⟨k + 1, by omega, by go_num, by rw [hsn.out]; exact hrow2, hlw2⟩
          case measure => simp [intOf]; omega
    · obtain rfl : k = N := by omega
      rw [List.take_of_length_le hN1] at hrow
      go_wp2_with fail
      go_ret
      exact ⟨_, rfl, hrow, hlw⟩
end Go.Proofs.Yteledidnhjioaaa.Sh
