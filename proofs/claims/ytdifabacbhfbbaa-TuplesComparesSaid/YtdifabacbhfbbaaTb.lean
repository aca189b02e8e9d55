import Derived.Test.YtdifabacbhfbbaaTa
namespace Go.Proofs.Ytdifabacbhfbbaa.Tu
open Go.RowKit Go.Lib Go.Proofs
set_option linter.unusedVariables false
set_option linter.unusedSimpArgs false
/-! ### rows of texts -/
def TxtAt (W : World) (A : Option Addr) (L : List ByteArray) : Prop := ∀ i s, L[i]? = some s → ∃ b o, A = some ⟨b, o, none⟩ ∧ W.cell? ⟨b, o + i, none⟩ = some (.string s)
theorem TxtAt.later {W V : World} {A : Option Addr} {L : List ByteArray} (h : TxtAt W A L) (l : Later W V) : TxtAt V A L := fun i s hi => by
  obtain ⟨b, o, e, c⟩ := h i s hi
  exact ⟨b, o, e, l.cell c⟩
/-- a row of one's own, of texts: all that lies there, behind its end too -/
structure LentAt (W : World) (g c : Nat) (L : List ByteArray) : Prop where
  blk : ∃ cs, W.heap[g]? = some (.cells cs 9 (0, 0))
  len : L.length ≤ c
  cell : ∀ i s, L[i]? = some s → W.cell? ⟨g, i, none⟩ = some (.string s)
theorem LentAt.txt {W : World} {g c : Nat} {L : List ByteArray} (h : LentAt W g c L) {l : List ByteArray} (hp : l <+: L) : TxtAt W (some ⟨g, 0, none⟩) l := fun i s hi => by
  obtain ⟨r, rfl⟩ := hp
  refine ⟨g, 0, rfl, ?_⟩
  rw [Nat.zero_add]
  refine h.cell i s ?_
  rw [List.getElem?_append_left (List.getElem?_eq_some_iff.1 hi).1]
  exact hi
theorem LentAt.kept {W V : World} {g c : Nat} {L : List ByteArray} {row : Option Nat} (h : LentAt W g c L) (hg : W.grownBy V row) (hne : row ≠ some g) : LentAt V g c L := by
  obtain ⟨⟨cs, hb⟩, hl, hc⟩ := h
  have hlt := (Array.getElem?_eq_some_iff.1 hb).1
  have hk := hg.block g hlt (fun e => hne e.symm)
  exact ⟨⟨cs, hk.trans hb⟩, hl, fun i s hi => (World.cell?_of_block (w := W) (a := ⟨g, i, none⟩) hk).trans (hc i s hi)⟩
theorem LentAt.later {W V : World} {g c : Nat} {L : List ByteArray} (h : LentAt W g c L) (l : Later W V) : LentAt V g c L := h.kept l.grown (by simp)
def encS (l : List ByteArray) : List Value := l.map Value.string
theorem encS_snoc (l : List ByteArray) (s : ByteArray) : encS (l ++ [s]) = encS l ++ [.string s] := by simp [encS]
theorem encS_len (l : List ByteArray) : (encS l).length = l.length := by simp [encS]
def marks : List ByteArray := (List.range 24).map fun (j : Nat) => mk (j : Int)
theorem marks_len : marks.length = 24 := by simp [marks]
theorem marks_at {j : Nat} (h : j < 24) : marks[j]? = some (mk (j : Int)) := by simp [marks, h]
theorem take_snoc {α : Type} {l : List α} {k : Nat} {x : α} (h : l[k]? = some x) : l.take (k + 1) = l.take k ++ [x] := by
  rw [List.take_add_one, h]; rfl
theorem info9 : (Try.prog.info? 9).map (fun i => (i.zero, i.size, i.bytes)) = some (some (.string ⟨#[]⟩), 1, 16) := by kernel_rfl
theorem info_parts {P : Program} {t : TypeId} {z : Value} {s b : Nat} (h : (P.info? t).map (fun i => (i.zero, i.size, i.bytes)) = some (some z, s, b)) : ∃ i, P.info? t = some i ∧ i.zero = some z ∧ i.size = s ∧ i.bytes = b := by
  obtain ⟨i, h1, h2⟩ := Option.map_eq_some_iff.1 h
  simp only [Prod.mk.injEq] at h2
  exact ⟨i, h1, h2.1, h2.2.1, h2.2.2⟩
theorem below_own {w W V : World} {base e z n : Nat} {v : Value} {xs : List Value} (h : W.ownsRow base e z v n xs) (hb : Below base w W) (hs : base ≤ W.heap.size) (hg : W.grownBy V v.ownBlock) : Below base w V :=
  Below.trans hb ⟨hg.os, hg.tape, hg.output, hg.size, fun k hk => hg.block k (Nat.lt_of_lt_of_le hk hs) (fun e => by
    rcases h.2 with ⟨rfl, _⟩ | ⟨g, cap, cur, rfl, h1, _⟩
    · cases e
    · cases e; exact Nat.lt_irrefl _ (Nat.lt_of_lt_of_le hk h1))⟩
theorem own_later {W V : World} {base e z n : Nat} {v : Value} {xs : List Value} (h : W.ownsRow base e z v n xs) (l : Later W V) : V.ownsRow base e z v n xs :=
  ⟨h.1, h.2.imp id fun ⟨g, cap, cur, e, h1, h2, h3⟩ => ⟨g, cap, cur, e, h1, (l.block g (Array.getElem?_eq_some_iff.1 h2).1).trans h2, h3⟩⟩
theorem row_lent {W : World} {base g n c : Nat} {L : List ByteArray} (h : W.ownsRow base 9 1 (.slice (some ⟨g, 0, none⟩) n c) n (encS L)) : LentAt W g c L := by
  have hl : L.length = n := by have := h.1; rw [encS_len] at this; omega
  rcases h.2 with ⟨e, _⟩ | ⟨g', c', cur, e, _, hb, hc, _⟩
  · cases e
  · injection e with e1 _ e2
    injection e1 with e1
    injection e1 with e1 _ _
    subst e1 e2
    refine ⟨⟨cur, hb⟩, by omega, fun i s hi => ?_⟩
    have hlt := (List.getElem?_eq_some_iff.1 hi).1
    rw [h.cellAt i (by omega)]
    simp [encS, hi]
theorem row_form {V : World} {base t z n : Nat} {v : Value} {xs : List Value} (h : V.ownsRow base t z v n xs) (hn : n ≠ 0) : ∃ g cp, v = .slice (some ⟨g, 0, none⟩) n cp ∧ base ≤ g ∧ g < V.heap.size ∧ n ≤ cp :=
  h.2.elim (fun h => absurd h.2 hn) (fun ⟨g, cp, cur, e, hb, hg, hc, _⟩ => ⟨g, cp, e, hb, (Array.getElem?_eq_some_iff.1 hg).1, hc⟩)
set_option maxHeartbeats 8000000 in
set_option maxRecDepth 100000 in
theorem lent_texts {l : List ByteArray} {w : World} {A : Option Addr} {n c : Nat} (hA : TxtAt w A l) (hn : l.length = n) (hz : n ≤ 8796093022080) :
    Calls Try.prog 38 #[.slice A n c] w fun e w' => ∃ g cap, e = .returned (.slice (some ⟨g, 0, none⟩) n cap) ∧ LentAt w' g cap (l ++ marks) ∧ w.heap.size ≤ g ∧ Later w w' := by
  obtain ⟨i0, hi, hz0, hz1, hz2⟩ := info_parts info9
  go_enter Try.func38, Try.ntmps38
  go_wp2_with fail
  go_loopw [3, 4] (fun v i wr => ∃ k : Nat, k ≤ n ∧ i = .int .i64 k ∧ wr.ownsRow w.heap.size 9 1 v k (encS (l.take k)) ∧ Later w wr) (fun _ i _ => n - (intOf i).toNat)
  case atStart => exact ⟨0, Nat.zero_le _, rfl, World.ownsRow_nil .., Later.refl _⟩
  case round =>
    obtain ⟨k, hk, rfl, hr, lk⟩ := hrel
    by_cases hlt : k < n
    · obtain ⟨s, hs⟩ : ∃ s, l[k]? = some s := ⟨_, List.getElem?_eq_getElem (by omega)⟩
      obtain ⟨b, o, rfl, c0⟩ := hA.later lk k s hs
      have hts := take_snoc hs
      have hsz := lk.size
      clear hs
      go_wp2_with (at_builtin; refine wpList_append_own_wide _ rfl _ _ 46 rfl w.heap.size 9 i0 (.string ⟨#[]⟩) 1 16 Try.underlying46 hi hz0 hz1 hz2 rfl (by decide) _ k _ rfl (hr.alloc _) ⟨_, 0, none⟩ 1 1 [.string s] rfl rfl (cell_one_new _ _ _) (by simp [Value.oneCell']) (by unfold maxLen; omega) (by omega) (by simp; omega) ?_; intro v' w1 hown' hgrow _)
      go_wp2_with fail
      go_roundw
      case rel => exact ⟨k + 1, by omega, by go_num, by rw [hts, encS_snoc]; exact hown', below_own (hr.alloc _) (lk.alloc _) (by simp; omega) hgrow⟩
      case measure => simp [intOf]; omega
    · obtain rfl : k = n := by omega
      rw [List.take_of_length_le (by omega)] at hr
      clear hk hlt
      go_wp2_with fail
      go_loopw [3, 5] (fun v i w2 => ∃ j : Nat, j ≤ 24 ∧ i = .int .i64 j ∧ w2.ownsRow w.heap.size 9 1 v (k + j) (encS (l ++ marks.take j)) ∧ Later w w2) (fun _ i _ => 24 - (intOf i).toNat)
      case atStart => exact ⟨0, Nat.zero_le _, rfl, by rw [List.take_zero, List.append_nil]; exact hr, lk⟩
      case round =>
        obtain ⟨j, hj, rfl, hr2, l2⟩ := hrel
        by_cases hlt : j < 24
        · have hts := take_snoc (marks_at hlt)
          have hsz := l2.size
          have hsz3 : ∀ V, Later wr V → w.heap.size ≤ V.heap.size := fun V h => Nat.le_trans hsz h.size
          go_wp2_with (first
            | (go_at_call 30; refine (mark_any 1 (j : Int) _).mono ?_; rintro e w3 ⟨rfl, l3⟩)
            | (at_builtin; refine wpList_append_own_wide _ rfl _ _ 46 rfl w.heap.size 9 i0 (.string ⟨#[]⟩) 1 16 Try.underlying46 hi hz0 hz1 hz2 rfl (by decide) _ (k + j) _ rfl ((own_later hr2 l3).alloc _) ⟨_, 0, none⟩ 1 1 [.string (mk j)] rfl rfl (cell_one_new _ _ _) (by simp [Value.oneCell']) (by unfold maxLen; omega) (by omega) (by rw [World.size_alloc]; exact Nat.le_succ_of_le (hsz3 _ l3)) ?_; intro v' w1 hown' hgrow _))
          go_wp2_with fail
          go_roundw
          case rel => exact ⟨j + 1, by omega, by go_num, by rw [hts, ← List.append_assoc, encS_snoc]; exact hown', below_own ((own_later hr2 l3).alloc _) ((l2.next l3).alloc _) (by rw [World.size_alloc]; exact Nat.le_succ_of_le (hsz3 _ l3)) hgrow⟩
          case measure => simp [intOf]; omega
        · obtain rfl : j = 24 := by omega
          obtain ⟨g, cap, rfl, hg, hgl, hcap⟩ := row_form hr2 (by omega)
          rw [List.take_of_length_le (by rw [marks_len]; omega)] at hr2
          have q1 : (0 : Int) ≤ (k : Int) := by omega
          have q2 : (k : Int) ≤ (cap : Int) := by omega
          go_wp2_with fail
          go_ret
          exact ⟨_, _, rfl, row_lent hr2, hg, l2⟩
end Go.Proofs.Ytdifabacbhfbbaa.Tu
