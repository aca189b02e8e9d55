import Derived.Test.YteledidnhjioaaaShP
namespace Go.Proofs.Yteledidnhjioaaa.Sh
open Go.RowKit Go.Lib Go.Proofs Go.Shelf
set_option linter.unusedVariables false
set_option linter.unusedSimpArgs false
theorem pick_any (x n : Int) (w : World) (h1 : 1 ≤ n) (h2 : n ≤ 4611686018427387904) : Calls Try.prog 21 #[.int .i64 x, .int .i64 n] w fun e w' => e = .returned (.int .i64 (x % n)) ∧ w = w' := by
  have hb := Int.tmod_lt_of_pos x (show 0 < n by omega)
  have hb2 : -n < x.tmod n := by
    have := Int.lt_tmod_of_pos x (show 0 < n by omega)
    omega
  have he : x % n = if x.tmod n < 0 then x.tmod n + n else x.tmod n := by
    have hr : x % n = (x.tmod n) % n := by
      have hh := Int.tmod_add_mul_tdiv x n
      conv => lhs; rw [← hh]
      rw [Int.add_mul_emod_self_left]
    rw [hr]
    split
    · rename_i h
      rw [← Int.add_emod_right, Int.emod_eq_of_lt (by omega) (by omega)]
    · rename_i h
      rw [Int.emod_eq_of_lt (by omega) (by omega)]
  rw [he]
  have hn0 : ¬ n < 1 := by omega
  have hnz : (n == 0) = false := by simp; omega
  by_cases hs : x.tmod n < 0
  · rw [if_pos hs]
    go_enter Try.func21, Try.ntmps21
    go_wp2
    go_ret
    exact ⟨rfl, rfl⟩
  · rw [if_neg hs]
    go_enter Try.func21, Try.ntmps21
    go_wp2
    go_ret
    exact ⟨rfl, rfl⟩
/-- the tree of what was added, one behind the other -/
def madeT (l : List (Int × Int)) : Tr (Int × Int) := l.foldl (fun T x => (T.put cmpR x false).1) .leaf
theorem madeT_snoc (l : List (Int × Int)) (x : Int × Int) : madeT (l ++ [x]) = ((madeT l).put cmpR x false).1 := by simp [madeT]
theorem madeT_size (l : List (Int × Int)) : (madeT l).size ≤ l.length := by
  suffices ∀ (l : List (Int × Int)) (T : Tr (Int × Int)), (l.foldl (fun T x => (T.put cmpR x false).1) T).size ≤ T.size + l.length by simpa [Tr.size, madeT] using this l .leaf
  intro l
  induction l with
  | nil => intro T; simp
  | cons x l ih =>
    intro T
    have h1 := ih (T.put cmpR x false).1
    have h2 := (Tr.put_size cmpR x false T).2
    simp only [List.foldl_cons, List.length_cons]
    omega
theorem take_snoc {α : Type} {l : List α} {k : Nat} {x : α} (h : l[k]? = some x) : l.take (k + 1) = l.take k ++ [x] := by
  rw [List.take_add_one, h]; rfl
set_option maxRecDepth 100000 in
set_option maxHeartbeats 8000000 in
theorem made_any {l : List (Int × Int)} {w : World} {A : Option Addr} {cap : Nat} (hl : SliceAt w A cap l) :
    Calls Try.prog 17 #[.slice A l.length cap] w fun e w' => e = .returned (.pointer (some ⟨w.heap.size, 0, none⟩)) ∧ Shf (only w.heap.size) w' w.heap.size 45 (madeT l) ∧ Later w w' := by
  obtain ⟨N, hN⟩ : ∃ N, w.heap.size = N := ⟨_, rfl⟩
  have hnew := new_any 45 w
  unfold newPost at hnew
  rw [hN] at hnew ⊢
  have hlm := hl.2.1
  go_enter Try.func17, Try.ntmps17
  go_wp2_with fail
  go_at_call 30; refine hnew.mono ?_; rintro e w0 ⟨rfl, h0, hl0⟩
  have s0 := shf_new h0 (only N)
  go_wp2_with fail
  go_loopw [4] (fun i wr => ∃ k : Nat, k ≤ l.length ∧ i = .int .i64 k ∧ Shf (only N) wr N 45 (madeT (l.take k)) ∧ Below N w wr) (fun i _ => l.length - (intOf i).toNat)
  case atStart => exact ⟨0, Nat.zero_le _, rfl, s0, by rw [← hN]; exact hl0⟩
  case round =>
    obtain ⟨k, hk, rfl, hs, hb⟩ := hrel
    have hbl : Later w wr := by rw [← hN] at hb; exact hb
    by_cases hlt : k < l.length
    · obtain ⟨x, hx⟩ : ∃ x, l[k]? = some x := ⟨_, List.getElem?_eq_getElem hlt⟩
      obtain ⟨b, o, rfl, c0, c1⟩ := hl.2.2 _ _ hx
      replace c0 := hbl.cell c0
      replace c1 := hbl.cell c1
      have hsz := madeT_size (l.take k)
      rw [List.length_take_of_le hk] at hsz
      have hadd := add_any (X := only N) compR x hs (fun b hb => by cases hb; exact hs.lt) rfl (by omega)
      have hts := hid (take_snoc hx)
      clear hx
      go_wp2_with (go_at_call 22; refine hadd.mono ?_; rintro e w1 ⟨rfl, s1, g1⟩)
      go_roundw
      case rel => exact ⟨k + 1, by omega, by go_num, by rw [hts.out, madeT_snoc]; exact s1, hb.trans (g1.below (by have := hb.size; omega) (fun b hb => by cases hb; omega))⟩
      case measure => simp [intOf]; omega
    · obtain rfl : k = l.length := by omega
      go_wp2
      go_ret
      rw [List.take_length] at hs
      exact ⟨rfl, hs, hbl⟩
end Go.Proofs.Yteledidnhjioaaa.Sh
