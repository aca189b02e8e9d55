import Derived.Test.YteledidnhjioaaaSiC
namespace Go.Proofs.Yteledidnhjioaaa.Sh
open Go.RowKit Go.Lib Go.Proofs Go.Shelf
set_option linter.unusedVariables false
set_option linter.unusedSimpArgs false
def subA (A : Option Addr) (cap R : Nat) : Option Addr := if cap = R then A else A.map fun a => a.add (R * 2)
set_option maxRecDepth 100000 in
set_option maxHeartbeats 2000000 in
/-- From of a list: the very slice -/
theorem from_ref2 (x : Int × Int) {l : List (Int × Int)} {w : World} {A : Option Addr} {cap : Nat} (h0 : A = none → cap = 0) (hl : SliceAt w A cap l) :
    Calls Try.prog 29 #[.slice A l.length cap, .agg #[.int .i64 x.1, .int .i64 x.2]] w fun e w' => e = .returned (.slice (subA A cap (rankL cmpR x l)) (l.drop (rankL cmpR x l)).length (cap - rankL cmpR x l)) ∧ Later w w' := by
  have hB : Later w (w.alloc (.cells #[.int .i64 x.1, .int .i64 x.2] 27)) := Later.two
  have hxx := two_new w (.int .i64 x.1) (.int .i64 x.2) 27
  have hk := rank_ref x (hl.later hB)
  have hle : rankL cmpR x l ≤ l.length := by have := rankL_take (c := cmpR) x l l.length; rwa [List.take_length] at this
  go_enter Try.func29, Try.ntmps29
  obtain ⟨R, hR⟩ : ∃ R, rankL cmpR x l = R := ⟨_, rfl⟩
  rw [hR] at hk hle ⊢
  have hcap := hl.1
  have hmax := hl.2.1
  go_wp2_with fail
  go_at_call 66; refine hk.mono ?_; rintro e W1 ⟨rfl, l1⟩
  have hW := hB.next l1
  rcases A with _ | a
  · obtain rfl := h0 rfl
    have hnil : l = [] := List.length_eq_zero_iff.1 (by omega)
    subst hnil
    obtain rfl : R = 0 := by simpa using hle
    clear hR hl hB hxx hk
    go_wp2_with fail
    go_ret
    exact ⟨rfl, hW⟩
  · by_cases hc : cap = R
    · subst hc
      have hlc : l.length = cap := by omega
      have hd : l.drop cap = [] := List.drop_eq_nil_of_le (by omega)
      go_wp2_with fail
      go_ret
      exact ⟨by rw [hd, subA, if_pos rfl]; simp, hW⟩
    · go_wp2_with fail
      go_ret
      exact ⟨by rw [List.length_drop, subA, if_neg hc]; rfl, hW⟩
theorem from_at2 (x : Int × Int) {l : List (Int × Int)} {w : World} {A : Option Addr} {cap : Nat} (h0 : A = none → cap = 0) (hl : SliceAt w A cap l) : SliceAt w (subA A cap (rankL cmpR x l)) (cap - rankL cmpR x l) (l.drop (rankL cmpR x l)) := by
  have hle : rankL cmpR x l ≤ l.length := by have := rankL_take (c := cmpR) x l l.length; rwa [List.take_length] at this
  have hcap := hl.1
  have hmax := hl.2.1
  refine ⟨by rw [List.length_drop]; omega, by rw [List.length_drop]; omega, fun i z hz => ?_⟩
  have hi : i < (l.drop (rankL cmpR x l)).length := (List.getElem?_eq_some_iff.1 hz).1
  rw [List.length_drop] at hi
  rw [List.getElem?_drop] at hz
  obtain ⟨b, o, e, k0, k1⟩ := hl.2.2 _ _ hz
  refine ⟨b, o + rankL cmpR x l * 2, ?_, ?_, ?_⟩
  · rw [subA, if_neg (by omega), e]; show some (Addr.add _ _) = _; rw [addr_plus]
  · rw [show o + rankL cmpR x l * 2 + i * 2 = o + (rankL cmpR x l + i) * 2 by omega]; exact k0
  · rw [show o + rankL cmpR x l * 2 + i * 2 = o + (rankL cmpR x l + i) * 2 by omega]; exact k1
end Go.Proofs.Yteledidnhjioaaa.Sh
