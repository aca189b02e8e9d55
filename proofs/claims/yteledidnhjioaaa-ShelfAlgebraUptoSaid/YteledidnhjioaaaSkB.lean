import Derived.Test.YteledidnhjioaaaSiZ
import Derived.Test.YteledidnhjioaaaShR
import Derived.Deep.LoopGhost
namespace Go.Proofs.Yteledidnhjioaaa.Sh
open Go.RowKit Go.Lib Go.Proofs Go.Shelf
set_option linter.unusedVariables false
set_option linter.unusedSimpArgs false
/-! ### the sides while something is done with them: all in blocks from lo up to hi -/
structure SidesB (lo hi : Nat) (O : Option Nat) (V : World) (Ds : List Nat) (qs : List (List (Int × Int))) : Prop where
  len : Ds.length = qs.length
  nodup : Ds.Nodup
  ge : ∀ D ∈ Ds, lo ≤ D ∧ D < hi
  own : ∀ D ∈ Ds, O ≠ some D
  at_ : ∀ (j D : Nat) (q : List (Int × Int)), Ds[j]? = some D → qs[j]? = some q → SideQ (fun b => (lo ≤ b ∧ b < hi) ∧ b ∉ Ds ∧ O ≠ some b) V D q
theorem Sides.b {lo : Nat} {O : Option Nat} {V : World} {Ds : List Nat} {qs : List (List (Int × Int))} (h : Sides lo O V Ds qs) (hO : ∀ D ∈ Ds, O ≠ some D) : SidesB lo V.heap.size O V Ds qs :=
  ⟨h.len, h.nodup, fun D hD => ⟨h.ge D hD, h.lt D hD⟩, hO, fun j D q hj hq => (h.at_ j D q hj hq).more' fun b hb hlt => ⟨⟨hb.1, hlt⟩, hb.2⟩⟩
theorem SidesB.chg {lo hi : Nat} {O : Option Nat} {Y : Nat → Prop} {W V : World} {Ds : List Nat} {qs : List (List (Int × Int))} (h : SidesB lo hi O W Ds qs) (c : Chg Y W V) (hY : ∀ b, lo ≤ b → b < hi → O ≠ some b → ¬ Y b) : SidesB lo hi O V Ds qs :=
  ⟨h.len, h.nodup, h.ge, h.own, fun j D q hj hq => (h.at_ j D q hj hq).chg c (hY D (h.ge D (List.mem_of_getElem? hj)).1 (h.ge D (List.mem_of_getElem? hj)).2 (h.own D (List.mem_of_getElem? hj))) (fun b hb => hY b hb.1.1 hb.1.2 hb.2.2)⟩
theorem nodup_at {Ds : List Nat} (h : Ds.Nodup) {i j D : Nat} (hi : Ds[i]? = some D) (hj : Ds[j]? = some D) : i = j := by
  obtain ⟨h1, e1⟩ := List.getElem?_eq_some_iff.1 hi
  obtain ⟨h2, e2⟩ := List.getElem?_eq_some_iff.1 hj
  have h' := List.pairwise_iff_getElem.1 h
  rcases Nat.lt_trichotomy i j with hl | hl | hl
  · exact absurd (e1.trans e2.symm) (h' i j h1 h2 hl)
  · exact hl
  · exact absurd (e2.trans e1.symm) (h' j i h2 h1 hl)
theorem SidesB.step {lo hi : Nat} {O : Option Nat} {W V : World} {Ds : List Nat} {qs : List (List (Int × Int))} {j D : Nat} {q : List (Int × Int)} (h : SidesB lo hi O W Ds qs) (hj : Ds[j]? = some D) (hq : qs[j]? = some q) (c : Chg (only D) W V)
    (hs : SideQ (fun b => (lo ≤ b ∧ b < hi) ∧ b ∉ Ds ∧ O ≠ some b) V D q.tail) : SidesB lo hi O V Ds (qs.set j q.tail) := by
  refine ⟨by rw [List.length_set]; exact h.len, h.nodup, h.ge, h.own, fun i E p hi hp => ?_⟩
  by_cases hij : j = i
  · subst hij
    rw [hi] at hj; cases hj
    rw [List.getElem?_set_self (List.getElem?_eq_some_iff.1 hq).1] at hp
    cases hp
    exact hs
  · rw [List.getElem?_set_ne hij] at hp
    have hne : E ≠ D := fun e => by subst e; exact hij (nodup_at h.nodup hj hi)
    exact (h.at_ i E p hi hp).chg c (fun e => hne e) (fun b hb e => hb.2.1 (by have : b = D := e; subst this; exact List.mem_of_getElem? hj))
theorem SidesB.step_at {lo hi : Nat} {O : Option Nat} {W : World} {Ds : List Nat} {qs : List (List (Int × Int))} {j D : Nat} {q : List (Int × Int)} (h : SidesB lo hi O W Ds qs) (hj : Ds[j]? = some D) (hq : qs[j]? = some q) (hz : q.length ≤ 4611686018427387904) :
    Calls Try.prog 81 #[.pointer (some ⟨D, 0, none⟩)] W fun e V => (∃ v, e = .returned v) ∧ Chg (only D) W V ∧ SidesB lo hi O V Ds (qs.set j q.tail) :=
  (step_q (h.at_ j D q hj hq) (fun hb => hb.2.1 (List.mem_of_getElem? hj)) hz).mono fun e V ⟨h1, h2, h3⟩ => ⟨h1, h2, h.step hj hq h2 h3⟩
/-- the cells of a side -/
theorem SideQ.ok {P : Nat → Prop} {W : World} {D : Nat} : ∀ {q : List (Int × Int)}, SideQ P W D q → W.cell? ⟨D, 3, none⟩ = some (.bool (!q.isEmpty))
  | [], ⟨x, A, cap, h, _⟩ => by simp [World.cell?, h]
  | _ :: _, ⟨A, cap, h, _⟩ => by simp [World.cell?, h]
theorem SideQ.head {P : Nat → Prop} {W : World} {D : Nat} {x : Int × Int} {r : List (Int × Int)} (h : SideQ P W D (x :: r)) : W.cell? ⟨D, 1, none⟩ = some (.int .i64 x.1) ∧ W.cell? ⟨D, 2, none⟩ = some (.int .i64 x.2) ∧ W.cell? ⟨D, 3, none⟩ = some (.bool true) := by
  obtain ⟨A, cap, h, _⟩ := h
  simp [World.cell?, h]
theorem ptr_row {W : World} {base n cap : Nat} {A : Option Addr} {Ds : List Nat} (h : W.ownsRow base 113 1 (.slice A n cap) n (Ds.map ptrV)) {k D : Nat} (hk : Ds[k]? = some D) (hn : Ds.length = n) : ∃ g, A = some ⟨g, 0, none⟩ ∧ W.cell? ⟨g, k, none⟩ = some (ptrV D) := by
  have hlt := (List.getElem?_eq_some_iff.1 hk).1
  rcases h.2 with ⟨e, h0⟩ | ⟨g, cap', cur, e, _⟩
  · omega
  · injection e with e1 _ _
    subst e1
    refine ⟨g, rfl, ?_⟩
    rw [h.cellAt k (by simp; omega)]
    simp [hk]
theorem least_at : ∀ (ls : List (List (Int × Int))) (acc : Option (Int × Int)) (y : Int × Int), leastH ls acc = some y → acc = some y ∨ ∃ (j : Nat) (r : List (Int × Int)), ls[j]? = some (y :: r)
  | [], acc, y, h => .inl h
  | q :: ls, acc, y, h => by
    rcases least_at ls (stepH acc q) y h with h1 | ⟨j, r, hj⟩
    · cases q with
      | nil => exact .inl h1
      | cons x r =>
        cases acc with
        | none => cases h1; exact .inr ⟨0, r, rfl⟩
        | some z =>
          simp only [stepH] at h1
          split at h1
          · cases h1; exact .inr ⟨0, r, rfl⟩
          · exact .inl h1
    · exact .inr ⟨j + 1, r, hj⟩
theorem drop_len (y : Int × Int) (q : List (Int × Int)) : (dropH y q).length ≤ q.length := by
  cases q with
  | nil => exact Nat.le_refl _
  | cons x r => simp only [dropH]; split <;> simp
theorem drop_all_len (y : Int × Int) : ∀ ls : List (List (Int × Int)), (ls.map (dropH y)).flatten.length ≤ ls.flatten.length
  | [] => Nat.le_refl _
  | q :: ls => by have := drop_all_len y ls; have := drop_len y q; simp only [List.map_cons, List.flatten_cons, List.length_append]; omega
theorem drop_less {y : Int × Int} {r : List (Int × Int)} : ∀ {ls : List (List (Int × Int))} {j : Nat}, ls[j]? = some (y :: r) → (ls.map (dropH y)).flatten.length < ls.flatten.length
  | q :: ls, 0, h => by
    cases h
    have := drop_all_len y ls
    have e : dropH y (y :: r) = r := by simp [dropH, (cmpR_eq y y).2 rfl]
    simp only [List.map_cons, List.flatten_cons, List.length_append, e, List.length_cons]
    omega
  | q :: ls, j + 1, h => by
    have := drop_less (ls := ls) (j := j) h
    have := drop_len y q
    simp only [List.map_cons, List.flatten_cons, List.length_append]
    omega
theorem least_take {ls : List (List (Int × Int))} {k : Nat} {q : List (Int × Int)} (h : ls[k]? = some q) : leastH (ls.take (k + 1)) none = stepH (leastH (ls.take k) none) q := by
  rw [List.take_add_one, h]
  simp [leastH, List.foldl_append]
end Go.Proofs.Yteledidnhjioaaa.Sh
