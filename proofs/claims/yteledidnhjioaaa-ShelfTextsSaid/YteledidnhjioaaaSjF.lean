import Derived.Test.YteledidnhjioaaaSjE
import Derived.RangeFuncBound
import Derived.RangeFuncCalls
import Derived.RangeFuncLeaves
import Derived.OwnWalkIn
import Derived.TacticsInMore
import Derived.LoopNIn
import Derived.LoopIn
namespace Go.Proofs.Yteledidnhjioaaa.St
open Go.RowKit Go.Lib Go.Proofs Go.Shelf Go.Proofs.Yteledidnhjioaaa.Sh
set_option linter.unusedVariables false
set_option linter.unusedSimpArgs false
attribute [local go_sem] Oper.semAt_some
theorem from_length_le {skip : ByteArray → Bool} : ∀ T : Tr ByteArray, (T.from_ skip).length ≤ T.size
  | .leaf => Nat.le_refl _
  | .node l x r => by
    have h1 := from_length_le (skip := skip) l
    have h2 := from_length_le (skip := skip) r
    simp only [Tr.from_, Tr.size]
    split <;> simp <;> omega
abbrev encS (x : ByteArray) : Array Value := #[.string x]
def nthV (T : Tr ByteArray) (i : Int) : Option ByteArray := if i < 0 then none else T.nth i.toNat
theorem nth_none (T : Tr ByteArray) (i : Nat) (h : T.size ≤ i) : T.nth i = none := by
  rw [nth_list, List.getElem?_eq_none]; rw [Tr.size_list]; exact h
set_option maxRecDepth 100000 in
set_option maxHeartbeats 8000000 in
theorem nth_in {X : Nat → Prop} {c : Nat} (i : Nat) {w : World} {sb : Nat} {T : Tr ByteArray} (h : Shf X w sb c T) (hi : i < T.size) (hz : T.size ≤ 4611686018427387904) :
    Calls Try.prog 40 #[.pointer (some ⟨sb, 0, none⟩), .int .i64 i] w fun e w' => e = .returned (opt (T.nth i)) ∧ Later w w' := by
  have hlen := len_any h
  obtain ⟨p, hs, ok, ht, hx⟩ := h
  have hcs := hs.cells
  obtain ⟨R, hR⟩ : ∃ R, T.nth i = R := ⟨_, rfl⟩
  rw [hR]
  have HR := hid hR
  clear hR hs
  have hi' : decide (T.size ≤ i) = false := by simp; omega
  have hi2 : ¬ ((i : Int) < 0) := by omega
  go_enter Try.func40, Try.ntmps40
  go_wp2_with (go_at_call 41; (with_reducible refine hlen.mono ?_); rintro e w' ⟨rfl, rfl⟩)
  go_loopg [1, 6] T.size (fun k u v wr => ∃ (T' : Tr ByteArray) (pp : Option Addr) (j : Nat), u = .int .i64 j ∧ v = .pointer pp ∧ IsT ok w pp T' ∧ Hid (T'.nth j = R) ∧ w = wr ∧ j < T'.size ∧ T'.size ≤ k ∧ T'.size ≤ 4611686018427387904)
  case atStart => exact ⟨T, p, i, rfl, rfl, ht, HR, rfl, hi, Nat.le_refl _, hz⟩
  case round =>
    obtain ⟨T', pp, j, rfl, rfl, ht, hf, rfl, hj, hk, hz⟩ := hrel
    cases T' with
    | leaf => exact absurd hj (by simp [Tr.size])
    | node l y r =>
      obtain ⟨b, pl, pr, rfl, hb, hcn0, hlt0, hrt0⟩ := IsT.node ht
      have hcn := hcn0 _ (Later.refl _)
      have hlt := hlt0 _ (Later.refl _)
      have hrt := hrt0 _ (Later.refl _)
      have hs2 : l.size + r.size + 1 ≤ gk := hk
      have hs3 : j < l.size + r.size + 1 := hj
      have hs4 : l.size + r.size + 1 ≤ 4611686018427387904 := hz
      clear hcn0 hlt0 hrt0 ht hk hj hz
      by_cases h1 : j < l.size
      · have hf' : Hid (l.nth j = R) := hid (by rw [← hf.out]; simp only [Tr.nth]; rw [if_pos h1])
        clear hf HR
        go_wp2_with (go_at_call 75; (with_reducible refine (count_any hlt).mono ?_); rintro e w' ⟨rfl, rfl⟩)
        go_roundg l.size
        case measure => omega
        case rel => exact ⟨l, pl, j, rfl, rfl, hlt, hf', rfl, h1, Nat.le_refl _, by omega⟩
      · by_cases h2 : j = l.size
        · have hf' : Hid (some y = R) := hid (by rw [← hf.out]; simp only [Tr.nth]; rw [if_neg h1, if_pos h2])
          subst h2
          clear hf HR h1
          go_wp2_with (go_at_call 75; (with_reducible refine (count_any hlt).mono ?_); rintro e w' ⟨rfl, rfl⟩)
          go_ret2
          exact ⟨by rw [← hf'.out]; rfl, Later.refl _⟩
        · have hf' : Hid (r.nth (j - l.size - 1) = R) := hid (by rw [← hf.out]; simp only [Tr.nth]; rw [if_neg h1, if_neg h2])
          have h3 : l.size < j := by omega
          clear hf HR h1 h2
          go_wp2_with (go_at_call 75; (with_reducible refine (count_any hlt).mono ?_); rintro e w' ⟨rfl, rfl⟩)
          go_roundg r.size
          case measure => omega
          case rel => exact ⟨r, pr, j - l.size - 1, by congr 1; omega, rfl, hrt, hf', rfl, by omega, Nat.le_refl _, by omega⟩
theorem rank_le {f : ByteArray → ByteArray → Int} {x : ByteArray} : ∀ T : Tr ByteArray, T.rank f x ≤ T.size
  | .leaf => Nat.le_refl _
  | .node l y r => by
    have h1 := rank_le (f := f) (x := x) l
    have h2 := rank_le (f := f) (x := x) r
    simp only [Tr.rank, Tr.size]
    split <;> omega
set_option maxRecDepth 100000 in
set_option maxHeartbeats 8000000 in
theorem rank_any {X : Nat → Prop} {c : Nat} {f : ByteArray → ByteArray → Int} (hc : Comp c f) (x : ByteArray) {w : World} {sb : Nat} {T : Tr ByteArray} (h : Shf X w sb c T) (hz : T.size ≤ 4611686018427387904) :
    Calls Try.prog 42 #[.pointer (some ⟨sb, 0, none⟩), .string x] w fun e w' => e = .returned (.int .i64 (T.rank f x : Nat)) ∧ Later w w' := by
  obtain ⟨p, hs, ok, ht, hx⟩ := h
  obtain ⟨R, hR⟩ : ∃ R, T.rank f x = R := ⟨_, rfl⟩
  rw [hR]
  have HR := hid hR
  have hsc : ∀ W', Later w W' → W'.cell? ⟨sb, 0, none⟩ = some (.func (.func c) #[] #[]) ∧ W'.cell? ⟨sb, 1, none⟩ = some (.pointer p) := fun W' k => ⟨(hs.later k).cells.1, (hs.later k).cells.2.1⟩
  have hen := hc.enters
  have hcc := hc.calls
  have hb0 := Later.refl w
  have hcs := hs.cells
  clear hR
  go_enter Try.func42, Try.ntmps42
  go_wp2_with fail
  go_loopg [5, 6] (T.size + 1) (fun k u v wr => ∃ (T' : Tr ByteArray) (pp : Option Addr) (j : Nat), u = .int .i64 j ∧ v = .pointer pp ∧ IsT ok wr pp T' ∧ Hid (R = j + T'.rank f x) ∧ Later w wr ∧ T'.size < k ∧ j + T'.size ≤ 4611686018427387904)
  case atStart => exact ⟨T, p, 0, rfl, rfl, ht, hid (by rw [← HR.out, Nat.zero_add]), hb0, Nat.lt_succ_self _, by omega⟩
  case round =>
    obtain ⟨T', pp, j, rfl, rfl, ht, hf, hl, hk, hj⟩ := hrel
    clear hcs
    cases T' with
    | leaf =>
      obtain rfl : pp = none := ht
      have hre : Hid (R = j) := hid (by rw [hf.out]; rfl)
      clear hf hk HR
      go_wp2_with fail
      go_ret
      exact ⟨by rw [hre.out]; rfl, hl⟩
    | node l y r =>
      obtain ⟨b, pl, pr, rfl, hb, hcn, hlt, hrt⟩ := IsT.node ht
      have hsc' : ∀ W', Later wr W' → W'.cell? ⟨sb, 0, none⟩ = some (.func (.func c) #[] #[]) := fun W' k => (hsc W' (hl.next k)).1
      have hbr := Later.refl wr
      have hk2 : l.size + r.size + 1 < gk := hk
      have hj2 : j + (l.size + r.size + 1) ≤ 4611686018427387904 := hj
      clear hsc hb0 hk ht hj
      by_cases h1 : f y x < 0
      · have hf' : Hid (R = j + (l.size + 1) + r.rank f x) := hid (by rw [hf.out]; simp only [Tr.rank]; rw [if_pos h1]; omega)
        clear hf HR
        go_wp2_with fail
        go_region_held3 (fun W' => Later wr W') (first | assumption | exact Later.drew (by assumption) | exact Later.next (by assumption) hb1) (first | ((with_reducible refine (hcc _ _ _).mono ?_); rintro e w1 ⟨rfl, hb1⟩))
        go_wp2_with (go_at_call 75; (with_reducible refine (count_any (hlt _ (by assumption))).mono ?_); rintro e w' ⟨rfl, rfl⟩)
        go_roundg (r.size + 1)
        case measure => omega
        case rel => exact ⟨r, pr, j + (l.size + 1), by congr 1, rfl, hrt _ (by assumption), hf', hl.next (by assumption), Nat.lt_succ_self _, by omega⟩
      · have hf' : Hid (R = j + l.rank f x) := hid (by rw [hf.out]; simp only [Tr.rank]; rw [if_neg h1])
        clear hf HR
        go_wp2_with fail
        go_region_held3 (fun W' => Later wr W') (first | assumption | exact Later.drew (by assumption) | exact Later.next (by assumption) hb1) (first | ((with_reducible refine (hcc _ _ _).mono ?_); rintro e w1 ⟨rfl, hb1⟩))
        go_wp2_with fail
        go_roundg (l.size + 1)
        case measure => omega
        case rel => exact ⟨l, pl, j, rfl, rfl, hlt _ (by assumption), hf', hl.next (by assumption), Nat.lt_succ_self _, by omega⟩
end Go.Proofs.Yteledidnhjioaaa.St
