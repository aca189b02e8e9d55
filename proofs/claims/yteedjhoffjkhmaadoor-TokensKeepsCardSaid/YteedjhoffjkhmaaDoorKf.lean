import Derived.Test.YteedjhoffjkhmaaDoorKe
import Derived.Test.YteedjhoffjkhmaaDoorQK
import Derived.Test.YteedjhoffjkhmaaDoorPUa
namespace Go.Proofs.YteedjhoffjkhmaaDoor.Ka
open Go.RowKit Go.Lib Go.Proofs Go.Proofs.YteedjhoffjkhmaaDoor.PT Go.Proofs.YteedjhoffjkhmaaDoor.Q
open Go.Proofs.YteedjhoffjkhmaaDoorW.PrintWords (Kd Reps OwnRow ReadsRow Drawn0)
set_option linter.unusedVariables false
set_option linter.unusedSimpArgs false
def tkOf (x : S37) : Tk := ⟨x.f0, x.f1, x.f2, x.f3⟩
theorem flat_reps {R : S37 → List Value → Prop} (hR : ∀ x cs, R x cs → cs = (tkOf x).vs) : ∀ (ps : List S37) (cs : List Value), Reps R 4 ps cs → cs = flatT (ps.map tkOf)
  | [], cs, h => List.length_eq_zero_iff.1 (by simpa using h.1)
  | p :: ps, cs, h => by
    have h0 := hR _ _ (h.2 0 p rfl)
    rw [Nat.zero_mul, List.drop_zero] at h0
    have hl := h.1
    rw [List.length_cons] at hl
    have ht : Reps R 4 ps (cs.drop 4) := by
      refine ⟨by rw [List.length_drop]; omega, fun j q hq => ?_⟩
      have := h.2 (j + 1) q (by simpa using hq)
      rw [List.drop_drop, show 4 + j * 4 = (j + 1) * 4 by omega]
      exact this
    have ih := flat_reps hR ps (cs.drop 4) ht
    have e : cs = cs.take 4 ++ cs.drop 4 := (List.take_append_drop 4 cs).symm
    rw [e, h0, ih]
    rfl
theorem TR.of {w : World} {base : Nat} {ok : Nat → Prop} {v : Value} {l : List S37} (h : Kd.R k37 37 w base ok v l) : TR w v (l.map tkOf) ∧ ∀ b, v.ownBlock = some b → base ≤ b := by
  obtain ⟨_, inner, ho, hr⟩ := h
  have e := flat_reps (R := k37.M w base (fun k => ok k ∧ some k ≠ v.ownBlock)) (fun x cs hx => k37_openM hx) l inner hr
  subst e
  refine ⟨?_, fun b hb => (World.ownsRow.lt ho b hb).1⟩
  have h1 := ho.1
  refine ⟨by rw [flatT_length], ?_⟩
  rw [List.length_map]
  rcases ho.2 with h0 | ⟨g, cap, cur, e, _, h2⟩
  · exact .inl h0
  · exact .inr ⟨g, cap, cur, e, Nat.zero_le _, h2⟩
theorem TR.C {w : World} {A : Option Addr} {n c : Nat} {l : List S37} (h : TR w (.slice A n c) (l.map tkOf)) (hl : l.length ≤ 1000000000000) : n = l.length ∧ l.length ≤ c ∧ Kd.C k37 w A l.length l := by
  obtain ⟨A', c', e, hc, _⟩ := h.slice
  injection e with e1 e2 e3
  rw [List.length_map] at e2 hc
  subst e1 e3
  refine ⟨e2, hc, rfl, by omega, fun hp => ?_⟩
  obtain ⟨g, cap, e⟩ := h.form (by rw [List.length_map]; exact hp)
  injection e with e _ _
  refine ⟨_, e, fun j p hj => ⟨(tkOf p).vs, rfl, k37_mk w p, fun i u hu => ?_⟩⟩
  have hp2 : (l.map tkOf)[j]? = some (tkOf p) := by rw [List.getElem?_map, hj]; rfl
  rw [e] at h
  obtain ⟨c0, c1, c2, c3⟩ := h.cells hp2
  have ha : ∀ m, ((⟨g, 0, none⟩ : Addr).add m) = ⟨g, m, none⟩ := fun m => by
    unfold Addr.add
    split
    · next h => rw [h]
    · simp
  rw [ha]
  match i, hu with
  | 0, hu => cases hu; exact c0
  | 1, hu => cases hu; exact c1
  | 2, hu => cases hu; exact c2
  | 3, hu => cases hu; exact c3
theorem wt_bd {l : List S37} (h : wt l ≤ 2147483647) : l.length ≤ 1000000000000 := by have := wt_len l; omega
theorem awake_any (w : World) (hT : VT w) : Calls Tryd.prog 13 #[] w fun e V => e = .returned (.bool true) ∧ Later w V := by
  obtain ⟨K, hK⟩ := awake_ev
  exact latchkeylaw05_awake.calls K true w (hK K (Nat.le_refl _)) hT
theorem scan_any (s : ByteArray) (w : World) (hT : VT w) : Calls Tryd.prog 10 #[.string s] w fun e V => ∃ A c, e = .returned (.tuple #[.slice A (scanV s).1.length c, .agg #[.int .i64 (scanV s).2.1, .int .i64 (scanV s).2.2.1, .int .i64 (scanV s).2.2.2]]) ∧ TR V (.slice A (scanV s).1.length c) ((scanV s).1.map tkOf) ∧ (∀ b o p, A = some ⟨b, o, p⟩ → o = 0 ∧ p = none ∧ w.heap.size ≤ b ∧ b < V.heap.size) ∧ Later w V := by
  obtain ⟨K, hK⟩ := tokscan_ev s
  refine (tokens_Scan.calls K s _ _ _ _ w (hK K (Nat.le_refl _)) hT).mono fun e V h => ?_
  obtain ⟨v, e1, h2, h3⟩ := h
  obtain ⟨ht, hb⟩ := TR.of h2
  obtain ⟨A, c, rfl, hc, hf⟩ := ht.slice
  rw [List.length_map] at e1 ht hb
  refine ⟨A, c, e1, ht, fun b o p e => ?_, h3⟩
  subst e
  obtain ⟨rfl, rfl⟩ := hf b o p rfl
  exact ⟨rfl, rfl, hb b rfl, ht.lt b rfl⟩
theorem same_any (l : List S37) (hl : l.length ≤ 65537) {w : World} {A B : Option Addr} {n m c c' : Nat} (hA : TR w (.slice A n c) (l.map tkOf)) (hB : TR w (.slice B m c') (l.map tkOf)) :
    Calls Tryd.prog 12 #[.slice A n c, .slice B m c'] w fun e V => e = .returned (.bool true) ∧ Later w V := by
  obtain ⟨K, hK⟩ := same_ev l hl
  obtain ⟨rfl, h1, h2⟩ := hA.C (by omega)
  obtain ⟨rfl, h3, h4⟩ := hB.C (by omega)
  exact (latchkeyref00_SameTokens.calls K A c l B c' l true w h2 h1 h4 h3 (hK K (Nat.le_refl _))).mono fun e V h => ⟨h.1, h.2.below⟩
theorem copy_any (l : List S37) (hw : wt l ≤ 2147483647) {w : World} {A : Option Addr} {n c : Nat} (hA : TR w (.slice A n c) (l.map tkOf)) :
    Calls Tryd.prog 20 #[.slice A n c] w fun e V => ∃ B d, e = .returned (.slice B l.length d) ∧ TR V (.slice B l.length d) (l.map tkOf) ∧ (∀ b o p, B = some ⟨b, o, p⟩ → o = 0 ∧ p = none ∧ w.heap.size ≤ b ∧ b < V.heap.size) ∧ Later w V := by
  obtain ⟨K, hK⟩ := copy_ev l hw
  obtain ⟨rfl, h1, h2⟩ := hA.C (wt_bd hw)
  refine (latchkeyref00_CopyTokens.calls K A c l l w h2 h1 (hK K (Nat.le_refl _))).mono fun e V h => ?_
  obtain ⟨v, e1, h2, h3⟩ := h
  obtain ⟨ht, hb⟩ := TR.of h2
  obtain ⟨B, d, rfl, hc, hf⟩ := ht.slice
  rw [List.length_map] at e1 ht hb
  refine ⟨B, d, e1, ht, fun b o p e => ?_, h3⟩
  subst e
  obtain ⟨rfl, rfl⟩ := hf b o p rfl
  exact ⟨rfl, rfl, hb b rfl, ht.lt b rfl⟩
theorem print_any (l : List S37) (hw : wt l ≤ 2147483647) {w : World} {A : Option Addr} {n c : Nat} (hA : TR w (.slice A n c) (l.map tkOf)) :
    Calls Tryd.prog 16 #[.slice A n c] w fun e V => e = .returned (.tuple #[.string (printV l).1, .int .i64 (printV l).2]) ∧ Later w V := by
  obtain ⟨K, hK⟩ := tokprint_ev l hw
  obtain ⟨rfl, h1, h2⟩ := hA.C (wt_bd hw)
  exact tokens_Print.calls K A c l _ _ w h2 h1 (hK K (Nat.le_refl _))
theorem lent_any (l : List S37) (hw : wt l ≤ 2147483647) {w : World} {A : Option Addr} {n c : Nat} (hA : TR w (.slice A n c) (l.map tkOf)) :
    Calls Tryd.prog 15 #[.slice A n c] w fun e V => ∃ g d, e = .returned (.slice (some ⟨g, 0, none⟩) l.length d) ∧ TR V (.slice (some ⟨g, 0, none⟩) (l ++ marksT).length d) ((l ++ marksT).map tkOf) ∧ w.heap.size ≤ g ∧ g < V.heap.size ∧ Later w V := by
  obtain ⟨K, hK⟩ := lent_ev l hw
  obtain ⟨rfl, h1, h2⟩ := hA.C (wt_bd hw)
  refine (latchkeykit_LentTokensR.calls K A c l _ w h2 h1 (hK K (Nat.le_refl _))).mono fun e V h => ?_
  obtain ⟨B, d, e1, h2, _, h3⟩ := h
  obtain ⟨ht, hb⟩ := TR.of h2
  obtain ⟨g, cap, e2⟩ := ht.form (by rw [List.length_map, List.length_append, marks_len]; omega)
  injection e2 with e2 _ _
  subst e2
  exact ⟨g, d, e1, ht, hb g rfl, ht.lt g rfl, h3⟩
theorem kept_any (l : List S37) (hw : wt l ≤ 2147483647) {w : World} {B : Option Addr} {g d m c : Nat} (hA : TR w (.slice (some ⟨g, 0, none⟩) (l ++ marksT).length d) ((l ++ marksT).map tkOf)) (hB : TR w (.slice B m c) (l.map tkOf)) :
    Calls Tryd.prog 18 #[.slice (some ⟨g, 0, none⟩) l.length d, .slice B m c] w fun e V => e = .returned (.bool true) ∧ Later w V := by
  obtain ⟨K, hK⟩ := kept_ev l hw
  have hb := wt_bd hw
  obtain ⟨_, h1, h2⟩ := hA.C (by rw [List.length_append, marks_len]; have := wt_len l; omega)
  obtain ⟨rfl, h3, h4⟩ := hB.C hb
  exact latchkeykit_KeptTokensR.calls K _ d l.length (l ++ marksT) B c l w h2 h1 h4 h3 (hK K (Nat.le_refl _))
end Go.Proofs.YteedjhoffjkhmaaDoor.Ka
