import Derived.Test.YtdifabacbhfbbaaTk
namespace Go.Proofs.Ytdifabacbhfbbaa.Tu
open Go.RowKit Go.Lib Go.Proofs
set_option linter.unusedVariables false
set_option linter.unusedSimpArgs false
/-! ### TuplesCompares: orders -/
set_option maxHeartbeats 8000000 in
set_option maxRecDepth 100000 in
theorem notNaN (s : ByteArray) (w : World) : Calls Try.prog 36 #[.string s] w fun e w' => e = .returned (.bool false) ∧ w = w' := by
  go_enter Try.func36, Try.ntmps36
  go_wp2_with fail
  go_ret
  exact ⟨by simp, rfl⟩
/-- two texts -/
def cmpS (a b : ByteArray) : Int := if Op.bytesLess a.toList b.toList = true then -1 else if (a.toList == b.toList) = true then 0 else 1
set_option maxHeartbeats 8000000 in
set_option maxRecDepth 100000 in
theorem cmp_any (a b : ByteArray) (w : World) : Calls Try.prog 23 #[.string a, .string b] w fun e w' => e = .returned (.int .i64 (cmpS a b)) ∧ w = w' := by
  unfold cmpS
  go_enter Try.func23, Try.ntmps23
  cases h1 : Op.bytesLess a.toList b.toList with
  | true =>
    go_wp2_with (go_at_call 36; refine (notNaN _ _).mono ?_; rintro e w3 ⟨rfl, rfl⟩)
    go_ret
    exact ⟨by simp, rfl⟩
  | false =>
    cases h2 : (a.toList == b.toList) with
    | true =>
      go_wp2_with (go_at_call 36; refine (notNaN _ _).mono ?_; rintro e w3 ⟨rfl, rfl⟩)
      go_ret
      exact ⟨by simp, rfl⟩
    | false =>
      go_wp2_with (go_at_call 36; refine (notNaN _ _).mono ?_; rintro e w3 ⟨rfl, rfl⟩)
      go_ret
      exact ⟨by simp, rfl⟩
/-- the first that is not nought -/
def orL : List Int → Int
  | [] => 0
  | x :: t => if x = 0 then orL t else x
set_option maxHeartbeats 8000000 in
set_option maxRecDepth 100000 in
theorem or_any {l : List Int} {w : World} {g n c : Nat} (hn : l.length = n) (hz : n ≤ 1000) (hc : ∀ i x, l[i]? = some x → w.cell? ⟨g, i, none⟩ = some (.int .i64 x)) :
    Calls Try.prog 21 #[.slice (some ⟨g, 0, none⟩) n c] w fun e w' => e = .returned (.int .i64 (orL l)) ∧ w = w' := by
  replace hc := hid hc
  go_enter Try.func21, Try.ntmps21
  go_wp2_with fail
  go_loopw [8] (fun i wr => ∃ k : Nat, k ≤ n ∧ i = .int .i64 k ∧ orL (l.drop k) = orL l ∧ w = wr) (fun i _ => n - (intOf i).toNat)
  case atStart => exact ⟨0, Nat.zero_le _, rfl, rfl, rfl⟩
  case round =>
    obtain ⟨k, hk, rfl, ho, rfl⟩ := hrel
    by_cases hlt : k < n
    · cases hx : l[k]? with
      | none => exact absurd (List.getElem?_eq_none_iff.1 hx) (by omega)
      | some x =>
        have c0 := hc.out k x hx
        have hd : l.drop k = x :: l.drop (k + 1) := by
          rw [List.drop_eq_getElem_cons (by omega)]
          congr 1
          have := (List.getElem?_eq_some_iff.1 hx).2
          exact this
        rw [hd] at ho
        clear hx hd
        by_cases h0 : x = 0
        · subst h0
          replace ho := hid ho
          go_wp2_with fail
          go_roundw
          case rel => exact ⟨k + 1, by omega, by go_num, by have := ho.out; simpa [orL] using this, trivial⟩
          case measure => simp [intOf]; omega
        · have hb : (x != 0) = true := by simp [h0]
          have he : Hid (orL l = x) := hid (by rw [← ho]; simp [orL, h0])
          clear ho
          go_wp2_with fail
          go_ret
          exact ⟨by rw [he.out]; rfl, rfl⟩
    · obtain rfl : k = n := by omega
      have he : Hid (orL l = 0) := hid (by rw [← ho, List.drop_of_length_le (by omega)]; rfl)
      clear ho
      go_wp2_with fail
      go_ret
      exact ⟨by rw [he.out]; rfl, rfl⟩
end Go.Proofs.Ytdifabacbhfbbaa.Tu
