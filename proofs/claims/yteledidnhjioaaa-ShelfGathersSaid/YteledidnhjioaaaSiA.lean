import Derived.Test.YteledidnhjioaaaShZ
import Derived.Test.YteledidnhjioaaaShW
namespace Go.Proofs.Yteledidnhjioaaa.Sh
open Go.RowKit Go.Lib Go.Proofs Go.Shelf
set_option linter.unusedVariables false
set_option linter.unusedSimpArgs false
theorem madeT_rises (l : List (Int × Int)) : Rises cmpR (madeT l).list :=
  fold_ind (f := fun (T : Tr (Int × Int)) x => (T.put cmpR x false).1) (P := fun (T : Tr (Int × Int)) _ => Rises cmpR T.list) (fun T n x h => put_rises ordR h) l .leaf 0 List.Pairwise.nil
set_option maxRecDepth 100000 in
set_option maxHeartbeats 8000000 in
theorem rising_ref {l : List (Int × Int)} {w : World} {A : Option Addr} {cap : Nat} (hl : SliceAt w A cap l) (hz : l.length ≤ 13999999999998) :
    Calls Try.prog 27 #[.slice A l.length cap] w fun e w' => ∃ v, e = .returned v ∧ w'.ownsRow w.heap.size 27 2 v (madeT l).list.length (flat (madeT l).list) ∧ Later w w' := by
  have hcap := hl.1
  go_enter Try.func27, Try.ntmps27
  go_wp2_with fail
  go_loopw [3, 4] (fun v i wr => ∃ k : Nat, k ≤ l.length ∧ i = .int .i64 k ∧ wr.ownsRow w.heap.size 27 2 v (madeT (l.take k)).list.length (flat (madeT (l.take k)).list) ∧ Later w wr) (fun _ i _ => l.length - (intOf i).toNat)
  case atStart => exact ⟨0, Nat.zero_le _, rfl, ownsRow_nil2 _ _, Later.refl _⟩
  case round =>
    obtain ⟨k, hk, rfl, hrow, hb⟩ := hrel
    by_cases hlt : k < l.length
    · obtain ⟨y, hy⟩ : ∃ y, l[k]? = some y := ⟨_, List.getElem?_eq_getElem hlt⟩
      obtain ⟨b, o, rfl, c0, c1⟩ := (hl.later hb).2.2 _ _ hy
      have hsz := madeT_size (l.take k)
      rw [List.length_take_of_le hk, ← Tr.size_list] at hsz
      have hri := madeT_rises (l.take k)
      have hts : Hid ((madeT (l.take (k + 1))).list = insL cmpR y false (madeT (l.take k)).list) := hid (by rw [take_snoc hy, madeT_snoc, (put_list ordR y false _ hri).1])
      obtain ⟨L, hL⟩ : ∃ L, (madeT (l.take k)).list = L := ⟨_, rfl⟩
      rw [hL] at hrow hsz hri hts
      obtain ⟨A2, cap2, rfl, hs, hbase⟩ := row_slice2 hrow (by omega) rfl
      have hput := put_ref y false hs hri (by omega)
      clear hL hy hrow
      go_wp2_with fail
      go_at_call 46; refine hput.mono ?_; rintro e w1 ⟨v, rfl, hrow, l1⟩
      go_wp2_with fail
      go_roundw
      case rel => exact ⟨k + 1, by omega, by go_num, by rw [hts.out]; exact own_lower hrow hb.size, hb.next l1⟩
      case measure => simp [intOf]; omega
    · obtain rfl : k = l.length := by omega
      rw [List.take_length] at hrow
      go_wp2_with fail
      go_ret
      exact ⟨_, rfl, hrow, hb⟩
end Go.Proofs.Yteledidnhjioaaa.Sh
