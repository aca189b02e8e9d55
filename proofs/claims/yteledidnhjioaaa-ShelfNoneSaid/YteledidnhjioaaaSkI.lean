import Derived.Test.YteledidnhjioaaaSkG
namespace Go.Proofs.Yteledidnhjioaaa.Sh
open Go.RowKit Go.Lib Go.Proofs Go.Shelf
set_option linter.unusedVariables false
set_option linter.unusedSimpArgs false
/-! ### ShelfMerges: Join, Meet and Without of three lists, told and gathered -/
theorem signR : ∀ a b : Int × Int, (cmpR a b < 0 ↔ a.1 < b.1) ∧ (cmpR a b = 0 ↔ a.1 = b.1) := fun a b => ⟨cmpR_lt a b, cmpR_eq a b⟩
theorem signK : ∀ a b : Int × Int, (cmpK a b < 0 ↔ a.1 < b.1) ∧ (cmpK a b = 0 ↔ a.1 = b.1) := fun a b => ⟨cmpK_lt a b, cmpK_eq a b⟩
def stepsJ (W8 : World) (SN n1 n2 n3 : Nat) : Nat → World → Prop
  | 0 => Mg W8 SN n1 n2 n3
  | 1 => Mg W8 SN (n1 + 1) n2 n3
  | 2 => Mg W8 SN (n1 + 1) n2 n3
  | 3 => Mg W8 SN (n1 + 1) (n2 + 1) n3
  | _ => Mg W8 SN (n1 + 1) (n2 + 1) (n3 + 1)
def stepsS (W8 : World) (SN n1 n2 n3 : Nat) : Nat → World → Prop
  | 0 => Mg W8 SN n1 n2 n3
  | 1 => Mg W8 SN (n1 + 1) n2 n3
  | _ => Mg W8 SN (n1 + 1) (n2 + 1) n3
theorem join4 (x y z : List (Int × Int)) : joinR [x, [], y, z] = joinR [x, y, z] := by simp [joinR]
theorem split_both {x y : List (Int × Int)} (hx : RisesR x) (hy : RisesR y) : splitL true x y = x.filter fun e => hasL cmpR e y := by
  rw [split_filter true x y hx hy]
  congr 1
  funext e
  rw [hasL_hasK]
  simp
theorem split_rest {x y : List (Int × Int)} (hx : RisesR x) (hy : RisesR y) : splitL false x y = x.filter fun e => !hasL cmpR e y := by
  rw [split_filter false x y hx hy]
  congr 1
  funext e
  rw [hasL_hasK]
  simp
structure Mx (W8 : World) (SN : Nat) (x y z : List (Int × Int)) (Lp Pp Lq Pq Lr Pr : Nat) : Prop where
  hs : Sn W8 SN 0 0 0
  p : ∃ A cap, Li W8 SN 0 Lp Pp x A cap
  q : ∃ A cap, Li W8 SN 3 Lq Pq y A cap
  r : ∃ A cap, Li W8 SN 6 Lr Pr z A cap
  hx : RisesR x
  hy : RisesR y
  hz : RisesR z
theorem boxed_ne {W : World} {SN B : Nat} {t : TypeId} {v : Value} (hs : Sn W SN 0 0 0) (h : Boxed W B t v) (ht : t ≠ 82) : B ≠ SN := fun e => by
  obtain ⟨_, _, _, _, _, _, k⟩ := hs
  have h1 : W.heap[B]? = _ := h
  rw [e, k] at h1
  injection h1 with h1
  injection h1 with _ h1 _
  exact ht h1.symm
section
variable {W8 : World} {SN Lp Pp Lq Pq Lr Pr n1 n2 n3 : Nat} {x y z : List (Int × Int)}
theorem mg_box {B : Nat} {t : TypeId} {v : Value} {V : World} (hs : Sn W8 SN 0 0 0) (hV : Mg W8 SN n1 n2 n3 V) (h : Boxed W8 B t v) (ht : t ≠ 82) : Boxed V B t v :=
  boxed_turn h hV.2 (fun e => e.elim (boxed_ne hs h ht) (fun e => by have := h.lt; omega))
theorem mg_slice {V : World} {A : Option Addr} {cap : Nat} {l : List (Int × Int)} (hV : Mg W8 SN n1 n2 n3 V) (h : SliceAt W8 A cap l) (hn : ∀ f o, A = some ⟨f, o, none⟩ → l ≠ [] → f ≠ SN) : SliceAt V A cap l :=
  slice_keep h hV.2 (fun f o e h0 hx => hx.elim (fun hx => hn f o e h0 hx) (fun hx => by have := h.block f o e h0; omega))
theorem join_m (M : Mx W8 SN x y z Lp Pp Lq Pq Lr Pr) {J0 J1 g cp : Nat} (bC : Boxed W8 J0 54 (.func (.func 45) #[] #[])) (bL : Boxed W8 J1 110 (.slice (some ⟨g, 0, none⟩) 4 cp)) (hcp : 4 ≤ cp) (hg : g ≠ SN)
    (h0 : W8.cell? ⟨g, 0, none⟩ = some (listV Pp Lp) ∧ W8.cell? ⟨g, 1, none⟩ = some .nilFunc ∧ W8.cell? ⟨g, 2, none⟩ = some (listV Pq Lq) ∧ W8.cell? ⟨g, 3, none⟩ = some (listV Pr Lr)) {V : World} (hV : Mg W8 SN n1 n2 n3 V) (hn : n1 ≤ 100 ∧ n2 ≤ 100 ∧ n3 ≤ 100) :
    SeqZ (fresh V) (only SN) 78 #[.pointer (some ⟨J0, 0, none⟩), .pointer (some ⟨J1, 0, none⟩)] (joinR [x, y, z]) (fun _ => Mg W8 SN (n1 + 1) (n2 + 1) (n3 + 1)) V := by
  obtain ⟨Ap, cp1, hp⟩ := M.p
  obtain ⟨Aq, cq1, hq⟩ := M.q
  obtain ⟨Ar, cr1, hr⟩ := M.r
  have hz1 := hp.z
  have hz2 := hq.z
  have hz3 := hr.z
  have hSN := M.hs.lt
  have hVs := hV.2.size
  have hgl := cell_lt h0.1
  have hcell : ∀ {o : Nat} {v : Value}, W8.cell? ⟨g, o, none⟩ = some v → V.cell? ⟨g, o, none⟩ = some v := fun h => hV.2.cell h (fun e => e.elim hg (fun e => by omega))
  have hfl : ([x, [], y, z] : List (List (Int × Int))).flatten.length ≤ 26388279066240 := by simp; omega
  have hm := merge_join (n := 26388279066240) (ls := [x, [], y, z]) (fun l hl => by
    simp only [List.mem_cons, List.not_mem_nil, or_false] at hl
    rcases hl with rfl | rfl | rfl | rfl
    · exact M.hx
    · exact List.Pairwise.nil
    · exact M.hy
    · exact M.hz) hfl
  rw [join4] at hm
  rw [← hm]
  have h := joins_seq (c := 45) (N := 26388279066240) (BC := J0) (BL := J1) (cap := cp) (f := cmpR) (ss := [⟨listV Pp Lp, x⟩, ⟨.nilFunc, []⟩, ⟨listV Pq Lq, y⟩, ⟨listV Pr Lr, z⟩]) (X := fresh V) (Z := only SN) (I := stepsJ W8 SN n1 n2 n3) (w0 := V) (A := some ⟨g, 0, none⟩)
    compR signR (mg_box M.hs hV bC (by decide)) (mg_box M.hs hV bL (by decide)) (fun i s hi => ?_) hcp (by simp) (fun e => by have := bC.lt; have : V.heap.size ≤ J0 := e; omega) (fun e => boxed_ne M.hs bC (by decide) e) (fun b e => by have : b = SN := e; have := hV.1.lt; omega)
    (fun W hW i s hi => ?_) (fun i U V' h c => ?_) hV (fun i s hi => ?_) hfl (Nat.le_trans hfl (by decide))
  · exact h
  · refine ⟨g, 0, rfl, ?_, fun e => hg e⟩
    match i, hi with
    | 0, hi => cases hi; exact hcell h0.1
    | 1, hi => cases hi; exact hcell h0.2.1
    | 2, hi => cases hi; exact hcell h0.2.2.1
    | 3, hi => cases hi; exact hcell h0.2.2.2
    | i + 4, hi => simp at hi
  · have hWs := hW.size
    have hX : ∀ b, upb W.heap.size b → W8.heap.size ≤ b := fun b e => by have : W.heap.size ≤ b := e; omega
    match i, hi with
    | 0, hi => cases hi; exact .inr ⟨55, _, rfl, enters55, fun U hU => (seq_p hp M.hs hU hn.1 _ hX).z⟩
    | 1, hi => cases hi; exact .inl ⟨rfl, rfl, fun U hU => hU⟩
    | 2, hi => cases hi; exact .inr ⟨55, _, rfl, enters55, fun U hU => (seq_q hq M.hs hU hn.2.1 _ hX).z⟩
    | 3, hi => cases hi; exact .inr ⟨55, _, rfl, enters55, fun U hU => (seq_r hr M.hs hU hn.2.2 _ hX).z⟩
    | i + 4, hi => simp at hi
  · have hx : ∀ b, (V.heap.size ≤ b ∨ fresh V b) → W8.heap.size ≤ b := fun b e => e.elim (fun e => by omega) (fun e => by have : V.heap.size ≤ b := e; omega)
    match i, h with
    | 0, h => exact Mg.chg h c hx hSN
    | 1, h => exact Mg.chg h c hx hSN
    | 2, h => exact Mg.chg h c hx hSN
    | 3, h => exact Mg.chg h c hx hSN
    | i + 4, h => exact Mg.chg h c hx hSN
  · match i, hi with
    | 0, hi => cases hi; exact hz1
    | 1, hi => cases hi; exact Nat.zero_le _
    | 2, hi => cases hi; exact hz2
    | 3, hi => cases hi; exact hz3
    | i + 4, hi => simp at hi
theorem split_m (M : Mx W8 SN x y z Lp Pp Lq Pq Lr Pr) {both : Bool} {B : Nat} (hB : SplitAt W8 B (.func (.func 45) #[] #[]) (listV Pp Lp) (listV Pq Lq) both) {V : World} (hV : Mg W8 SN n1 n2 n3 V) (hn : n1 ≤ 100 ∧ n2 ≤ 100) :
    SeqZ (fresh V) (only SN) 89 #[.pointer (some ⟨B, 0, none⟩), .pointer (some ⟨B + 1, 0, none⟩), .pointer (some ⟨B + 1 + 1, 0, none⟩), .pointer (some ⟨B + 1 + 1 + 1, 0, none⟩)] (splitL both x y) (fun _ => Mg W8 SN (n1 + 1) (n2 + 1) n3) V := by
  obtain ⟨Ap, cp1, hp⟩ := M.p
  obtain ⟨Aq, cq1, hq⟩ := M.q
  obtain ⟨⟨⟨b0, b1⟩, b2⟩, b3⟩ := hB
  have hSN := M.hs.lt
  have hVs := hV.2.size
  have l0 := b0.lt
  have l3 := b3.lt
  have h := splits_seq (c := 45) (BC := B) (BP := B + 1) (BQ := B + 1 + 1) (BF := B + 1 + 1 + 1) (both := both) (f := cmpR) (vp := listV Pp Lp) (vq := listV Pq Lq) (p := x) (q := y) (X := fresh V) (Z := only SN) (I := stepsS W8 SN n1 n2 n3) (w0 := V)
    compR signR (mg_box M.hs hV b0 (by decide)) (mg_box M.hs hV b1 (by decide)) (mg_box M.hs hV b2 (by decide)) (mg_box M.hs hV b3 (by decide)) (fun e => by have : V.heap.size ≤ B := e; omega) (fun e => boxed_ne M.hs b0 (by decide) e) (fun e => by have : V.heap.size ≤ B + 1 + 1 + 1 := e; omega) (fun e => boxed_ne M.hs b3 (by decide) e)
    (fun b e => by have : b = SN := e; have := hV.1.lt; omega) (fun W hW => ?_) (fun i U V' h c => ?_) hV hp.z hq.z
  · exact h
  · have hWs := hW.size
    have hX : ∀ b, upb W.heap.size b → W8.heap.size ≤ b := fun b e => by have : W.heap.size ≤ b := e; omega
    exact ⟨.inr ⟨55, _, rfl, enters55, fun U hU => (seq_p hp M.hs hU hn.1 _ hX).z⟩, .inr ⟨55, _, rfl, enters55, fun U hU => (seq_q hq M.hs hU hn.2 _ hX).z⟩⟩
  · have hx : ∀ b, (V.heap.size ≤ b ∨ fresh V b) → W8.heap.size ≤ b := fun b e => e.elim (fun e => by omega) (fun e => by have : V.heap.size ≤ b := e; omega)
    match i, h with
    | 0, h => exact Mg.chg h c hx hSN
    | 1, h => exact Mg.chg h c hx hSN
    | i + 2, h => exact Mg.chg h c hx hSN
theorem told_m {g : Nat} {lb : Array Value} {xs : List (Int × Int)} {m1 m2 m3 : Nat} {V : World} {A : Option Addr} {cap : Nat} (hs : Sn W8 SN 0 0 0) (hV : Mg W8 SN n1 n2 n3 V) (h : SeqZ (fresh V) (only SN) g lb xs (fun _ => Mg W8 SN m1 m2 m3) V) (hg : ∀ args w, (callFunc g args).run Try.prog w = .ok (.enter g args) w)
    (hw : SliceAt W8 A cap xs) (hne : ∀ f o, A = some ⟨f, o, none⟩ → xs ≠ [] → f ≠ SN) (hz : xs.length ≤ 4611686018427387904) :
    Calls Try.prog 25 #[.func (.func g) #[] lb, .slice A xs.length cap] V fun e U => e = .returned (.bool true) ∧ Mg W8 SN m1 m2 m3 U := by
  have hVs := hV.2.size
  refine (told_z h hg (mg_slice hV hw hne) (fun b o e h0 hx => hne b o e h0 hx) (fun b e => by have : b = SN := e; have := hV.1.lt; omega) (fun k A' V' hA c => Mg.chg hA c (fun b e => by have : V.heap.size ≤ b := e; omega) hs.lt) hz).mono ?_
  rintro e U ⟨rfl, _, k, hk⟩
  exact ⟨by simp, hk⟩
theorem gathered_m {g : Nat} {lb : Array Value} {xs : List (Int × Int)} {m1 m2 m3 : Nat} {V : World} (m : Nat) (hs : Sn W8 SN 0 0 0) (hV : Mg W8 SN n1 n2 n3 V) (h : SeqZ (fresh V) (only SN) g lb xs (fun _ => Mg W8 SN m1 m2 m3) V) (hg : ∀ args w, (callFunc g args).run Try.prog w = .ok (.enter g args) w) (hz : xs.length ≤ 8796093022200) :
    Calls Try.prog 18 #[.func (.func g) #[] lb, .int .i64 m] V fun e U => ∃ v, e = .returned v ∧ U.ownsRow V.heap.size 27 2 v (xs.take m).length (flat (xs.take m)) ∧ Mg W8 SN m1 m2 m3 U := by
  have hVs := hV.2.size
  refine (gathered_z m h hg (fun b e => by have : b = SN := e; have := hV.1.lt; omega) (fun k A' V' hA c => Mg.chg hA c (fun b e => by have : V.heap.size ≤ b := e; omega) hs.lt) hz).mono ?_
  rintro e U ⟨v, rfl, h1, _, k, hk⟩
  exact ⟨v, rfl, h1, hk⟩
end
end Go.Proofs.Yteledidnhjioaaa.Sh
