import Derived.Test.YteledidnhjioaaaSkG
import Derived.Deep.RegionHeld3
import Derived.Deep.DeepCutAuto
import Derived.Deep.CutBlock
namespace Go.Proofs.Yteledidnhjioaaa.Sh
open Go.RowKit Go.Lib Go.Proofs Go.Shelf
set_option linter.unusedVariables false
set_option linter.unusedSimpArgs false
attribute [local go_sem] Oper.semAt_some
theorem SplitAt.later {W V : World} {B : Nat} {cmp p q : Value} {both : Bool} (h : SplitAt W B cmp p q both) (l : Later W V) : SplitAt V B cmp p q both :=
  ⟨⟨⟨h.1.1.1.kept l.grown (fun e => by cases e), h.1.1.2.kept l.grown (fun e => by cases e)⟩, h.1.2.kept l.grown (fun e => by cases e)⟩, h.2.kept l.grown (fun e => by cases e)⟩
theorem Sn.cells {W : World} {SN n1 n2 n3 : Nat} (h : Sn W SN n1 n2 n3) : W.cell? ⟨SN, 0, none⟩ = some (.int .i64 n1) ∧ W.cell? ⟨SN, 1, none⟩ = some (.int .i64 n1) ∧ W.cell? ⟨SN, 3, none⟩ = some (.int .i64 n2) ∧ W.cell? ⟨SN, 4, none⟩ = some (.int .i64 n2) ∧ W.cell? ⟨SN, 6, none⟩ = some (.int .i64 n3) ∧ W.cell? ⟨SN, 7, none⟩ = some (.int .i64 n3) := by
  obtain ⟨_, _, _, _, _, _, h⟩ := h
  simp [World.cell?, h]
theorem slice_take {W : World} {A : Option Addr} {cap m : Nat} {l : List (Int × Int)} (h : SliceAt W A cap l) (hm : m ≤ l.length) : SliceAt W A cap (l.take m) :=
  ⟨by rw [List.length_take_of_le hm]; have := h.1; omega, by rw [List.length_take_of_le hm]; have := h.2.1; omega, fun i x hx => h.2.2 i x (by rw [List.getElem?_take] at hx; split at hx <;> first | exact hx | cases hx)⟩
theorem same_m {W8 V : World} {SN n1 n2 n3 m c1 cap : Nat} {A A1 : Option Addr} {l : List (Int × Int)} (hs : SN < W8.heap.size) (hV : Mg W8 SN n1 n2 n3 V) (hw : SliceAt W8 A cap l) (hne : ∀ f o, A = some ⟨f, o, none⟩ → l ≠ [] → f ≠ SN) (hm : m ≤ l.length) (h1 : SliceAt V A1 c1 (l.take m)) :
    Calls Try.prog 14 #[.slice A1 m c1, .slice A m cap] V fun e U => e = .returned (.bool true) ∧ Mg W8 SN n1 n2 n3 U := by
  have := same_ref h1 (slice_take (mg_slice hV hw hne) hm)
  rw [List.length_take_of_le hm, decide_eq_true rfl] at this
  exact this.mono fun e U h => ⟨h.1, Mg.chg hV (X := fun _ => False) h.2.chg (fun _ h => h.elim) hs⟩
theorem boxed_later {W V : World} {B : Nat} {t : TypeId} {v : Value} (h : Boxed W B t v) (l : Later W V) : Boxed V B t v := h.kept l.grown (fun e => by cases e)
theorem sn_ne {W W' : World} {SN n : Nat} {A : Option Addr} {l : List (Int × Int)} (h : ∀ b o, A = some ⟨b, o, none⟩ → n ≤ b ∧ b < W.heap.size) (hs : SN < n) : ∀ f o, A = some ⟨f, o, none⟩ → l ≠ [] → f ≠ SN := fun f o e _ => by have := (h f o e).1; omega
set_option maxRecDepth 100000 in
set_option maxHeartbeats 40000000 in
theorem merges_walk {a b c : List (Int × Int)} (k : Int) {w : World} {Aa Ab Ac : Option Addr} {ca cb cc : Nat} (ha : SliceAt w Aa ca a) (hb : SliceAt w Ab cb b) (hc : SliceAt w Ac cc c) (hz : a.length + b.length + c.length ≤ 2000000000000) :
    Calls Try.prog 9 #[.agg #[.slice Aa a.length ca, .slice Ab b.length cb, .slice Ac c.length cc, .int .i64 k]] w fun e w' => e = .returned (.bool true) ∧ Later w w' := by
  obtain ⟨na, hna⟩ : ∃ n, a.length = n := ⟨_, rfl⟩
  obtain ⟨nb, hnb⟩ : ∃ n, b.length = n := ⟨_, rfl⟩
  obtain ⟨nc, hnc⟩ : ∃ n, c.length = n := ⟨_, rfl⟩
  rw [hna, hnb, hnc]
  have hxl := Tr.size_list (madeT a)
  have hyl := Tr.size_list (madeT b)
  have hzl := Tr.size_list (madeT c)
  have hxm := madeT_size a
  have hym := madeT_size b
  have hzm := madeT_size c
  have hxr := (rises_iff _).1 (madeT_rises a)
  have hyr := (rises_iff _).1 (madeT_rises b)
  have hzr := (rises_iff _).1 (madeT_rises c)
  have r27 : ∀ {l : List (Int × Int)} {A : Option Addr} {cap n : Nat} (W W' : World), SliceAt w A cap l → l.length = n → l.length ≤ 2000000000000 → Later w W → Later W W' → Calls Try.prog 27 #[.slice A n cap] W' fun e V => ∃ v, e = .returned v ∧ V.ownsRow W'.heap.size 27 2 v (madeT l).list.length (flat (madeT l).list) ∧ Later W' V := by
    rintro l A cap n W W' hl rfl hle h1 h2
    exact rising_ref (hl.later (h1.next h2)) (by omega)
  have pa := fun W W' => r27 W W' ha hna (by omega)
  have pb := fun W W' => r27 W W' hb hnb (by omega)
  have pc := fun W W' => r27 W W' hc hnc (by omega)
  obtain ⟨W1, hW1⟩ : ∃ W1, w.alloc (.cells #[.slice Aa na ca, .slice Ab nb cb, .slice Ac nc cc, .int .i64 k] 81) = W1 := ⟨_, rfl⟩
  have l1 : Later w W1 := by rw [← hW1]; exact (Later.refl w).alloc _
  have hN : W1.heap[w.heap.size]? = some (.cells #[.slice Aa na ca, .slice Ab nb cb, .slice Ac nc cc, .int .i64 k] 81 (0, 0)) := by rw [← hW1]; exact World.alloc_heap_new w _
  have k0 : W1.cell? ⟨w.heap.size, 0, none⟩ = some (.slice Aa na ca) := by simp [World.cell?, hN]
  have k1 : W1.cell? ⟨w.heap.size, 1, none⟩ = some (.slice Ab nb cb) := by simp [World.cell?, hN]
  have k2 : W1.cell? ⟨w.heap.size, 2, none⟩ = some (.slice Ac nc cc) := by simp [World.cell?, hN]
  have k3 : W1.cell? ⟨w.heap.size, 3, none⟩ = some (.int .i64 k) := by simp [World.cell?, hN]
  have hf0 : ∀ W', Later W1 W' → W'.cell? ⟨w.heap.size, 0, none⟩ = some (.slice Aa na ca) ∧ W'.cell? ⟨w.heap.size, 1, none⟩ = some (.slice Ab nb cb) ∧ W'.cell? ⟨w.heap.size, 2, none⟩ = some (.slice Ac nc cc) := fun W' h => ⟨h.cell k0, h.cell k1, h.cell k2⟩
  generalize (madeT a).list = x at *
  generalize (madeT b).list = y at *
  generalize (madeT c).list = z at *
  have hxz : x.length ≤ 2000000000000 := by omega
  have hyz : y.length ≤ 2000000000000 := by omega
  have hzz : z.length ≤ 2000000000000 := by omega
  have hsum : x.length + y.length + z.length ≤ 2000000000000 := by omega
  obtain ⟨nx, hnx⟩ : ∃ n, x.length = n := ⟨_, rfl⟩
  obtain ⟨ny, hny⟩ : ∃ n, y.length = n := ⟨_, rfl⟩
  obtain ⟨nz, hnz⟩ : ∃ n, z.length = n := ⟨_, rfl⟩
  rw [hnx] at hxz hsum pa
  rw [hny] at hyz hsum pb
  rw [hnz] at hzz hsum pc
  replace hnx := hid hnx
  replace hny := hid hny
  replace hnz := hid hnz
  clear hxl hyl hzl hxm hym hzm ha hb hc r27 hna hnb hnc k0 k1 k2 hz hN
  go_enter Try.func9, Try.ntmps9
  go_upto_region 1 with fail
  try rw [hW1]
  clear hW1
  go_cut [3, 4, 5] (fun v3 v4 v5 wx => ∃ (Ax Ay Az : Option Addr) (cx cy cz : Nat), v3 = .slice Ax nx cx ∧ v4 = .slice Ay ny cy ∧ v5 = .slice Az nz cz ∧ SliceAt wx Ax cx x ∧ SliceAt wx Ay cy y ∧ SliceAt wx Az cz z ∧ Later W1 wx)
  case first =>
    have hlr := Later.refl W1
    go_region_held3 (fun W' => Later W1 W') (first | assumption | exact Later.drew (Later.refl _)) (first
      | (go_at_call 27; (with_reducible refine (pa W1 _ l1 (by assumption)).mono ?_); rintro e w2 ⟨v, rfl, hr2, l2⟩; have lw2 : Later W1 w2 := Later.next (by assumption) l2; obtain ⟨Ax, cx, rfl, sx, _⟩ := row_slice2 (l := x) (by rw [hnx.out]; exact hr2) (by rw [hnx.out]; omega) hnx.out)
      | (go_at_call 27; (with_reducible refine (pb W1 _ l1 (by assumption)).mono ?_); rintro e w3 ⟨v, rfl, hr3, l3⟩; have lw3 : Later W1 w3 := Later.next (by assumption) l3; obtain ⟨Ay, cy, rfl, sy, _⟩ := row_slice2 (l := y) (by rw [hny.out]; exact hr3) (by rw [hny.out]; omega) hny.out)
      | (go_at_call 27; (with_reducible refine (pc W1 _ l1 (by assumption)).mono ?_); rintro e w4 ⟨v, rfl, hr4, l4⟩; have lw4 : Later W1 w4 := Later.next (by assumption) l4; obtain ⟨Az, cz, rfl, sz, _⟩ := row_slice2 (l := z) (by rw [hnz.out]; exact hr4) (by rw [hnz.out]; omega) hnz.out))
    all_goals (go_wp2_with fail; go_meet; exact ⟨Ax, Ay, Az, cx, cy, cz, rfl, rfl, rfl, sx.later (l3.next l4), sy.later l4, sz, lw4⟩)
  case rest =>
    rename World => W2
    obtain ⟨Ax, Ay, Az, cx, cy, cz, rfl, rfl, rfl, sx, sy, sz, l12⟩ := hcut
    have k3' := l12.cell k3
    have l2 := l1.next l12
    clear hf0 pa pb pc k3 l12 l1
    obtain ⟨N0, hN0⟩ : ∃ N0, w.heap.size = N0 := ⟨_, rfl⟩
    rw [hN0] at k3' ⊢
    obtain ⟨SN, hSN⟩ : ∃ SN, W2.heap.size = SN := ⟨_, rfl⟩
    have l23 : Later W2 (W2.alloc (.cells #[.int .i64 0, .int .i64 0, .int .i64 0, .int .i64 0, .int .i64 0, .int .i64 0, .int .i64 0, .int .i64 0, .int .i64 0] 82)) := (Later.refl W2).alloc _
    have s0 : (W2.alloc (.cells #[.int .i64 0, .int .i64 0, .int .i64 0, .int .i64 0, .int .i64 0, .int .i64 0, .int .i64 0, .int .i64 0, .int .i64 0] 82)).heap[SN]? = some (.cells #[.int .i64 0, .int .i64 0, .int .i64 0, .int .i64 0, .int .i64 0, .int .i64 0, .int .i64 0, .int .i64 0, .int .i64 0] 82 (0, 0)) := by rw [← hSN]; exact World.alloc_heap_new W2 _
    generalize hW3 : W2.alloc (.cells #[.int .i64 0, .int .i64 0, .int .i64 0, .int .i64 0, .int .i64 0, .int .i64 0, .int .i64 0, .int .i64 0, .int .i64 0] 82) = W3 at l23 s0
    go_wp2_with fail
    try rw [hW3]
    go_at_call 13; refine list_any_o.mono ?_; rintro e W4 ⟨rfl, l34, bp1, bp2⟩
    clear hW3
    go_wp2_with fail
    go_at_call 13; refine list_any_o.mono ?_; rintro e W5 ⟨rfl, l45, bq1, bq2⟩
    go_wp2_with fail
    go_at_call 13; refine list_any_o.mono ?_; rintro e W6 ⟨rfl, l56, br1, br2⟩
    obtain ⟨Lp, hLp⟩ : ∃ L, W3.heap.size = L := ⟨_, rfl⟩
    obtain ⟨Lq, hLq⟩ : ∃ L, W4.heap.size = L := ⟨_, rfl⟩
    obtain ⟨Lr, hLr⟩ : ∃ L, W5.heap.size = L := ⟨_, rfl⟩
    rw [hLp] at bp1 bp2 ⊢
    rw [hLq] at bq1 bq2 ⊢
    rw [hLr] at br1 br2 ⊢
    have l36 := (l34.next l45).next l56
    have l26 := l23.next l36
    have s6 := l36.block SN (by have := (Array.getElem?_eq_some_iff.1 s0).1; omega)
    rw [s0] at s6
    clear s0
    go_wp2_with fail
    have l67 : Later W6 (W6.alloc (.cells #[listV (Lp + 1) Lp, .nilFunc, listV (Lq + 1) Lq, listV (Lr + 1) Lr] 29)) := (Later.refl W6).alloc _
    have hb7 : (W6.alloc (.cells #[listV (Lp + 1) Lp, .nilFunc, listV (Lq + 1) Lq, listV (Lr + 1) Lr] 29)).heap[W6.heap.size]? = some (.cells #[listV (Lp + 1) Lp, .nilFunc, listV (Lq + 1) Lq, listV (Lr + 1) Lr] 29 (0, 0)) := World.alloc_heap_new W6 _
    obtain ⟨g6, hg6⟩ : ∃ g, W6.heap.size = g := ⟨_, rfl⟩
    rw [hg6] at hb7
    generalize hW7 : W6.alloc (.cells #[listV (Lp + 1) Lp, .nilFunc, listV (Lq + 1) Lq, listV (Lr + 1) Lr] 29) = W7 at l67 hb7
    have hj := joins_any (vs := [listV (Lp + 1) Lp, .nilFunc, listV (Lq + 1) Lq, listV (Lr + 1) Lr]) (w := W7) (cmp := 45) (b0 := g6) (cap := 4) (fun j u hu => by
      rw [addr_plus, Nat.zero_add]
      match j, hu with
      | 0, hu => cases hu; simp [World.cell?, hb7]
      | 1, hu => cases hu; simp [World.cell?, hb7]
      | 2, hu => cases hu; simp [World.cell?, hb7]
      | 3, hu => cases hu; simp [World.cell?, hb7]
      | j + 4, hu => simp at hu) (by simp [Value.oneCell']) (by simp) (by simp)
    try rw [hg6]
    try rw [hW7]
    clear hW7
    go_at_call 49; refine hj.mono ?_; rintro e W8 ⟨rfl, l78, bJ0, vj, bJ1, rowj⟩
    obtain ⟨gj, cj, rfl⟩ := row_form rowj (by simp)
    have cellj : ∀ j, j < 4 → W8.cell? ⟨gj, j, none⟩ = [listV (Lp + 1) Lp, .nilFunc, listV (Lq + 1) Lq, listV (Lr + 1) Lr][j]? := fun j hlt => rowj.cellAt j (by simpa using hlt)
    have cj0 := cellj 0 (by decide)
    have cj1 := cellj 1 (by decide)
    have cj2 := cellj 2 (by decide)
    have cj3 := cellj 3 (by decide)
    simp only [List.getElem?_cons_zero, List.getElem?_cons_succ] at cj0 cj1 cj2 cj3
    have hgj := (own_at rowj gj rfl)
    have hcj4 : 4 ≤ cj := by
      rcases rowj.2 with ⟨h1, _⟩ | ⟨g', c', cur, h1, _, _, h4, _⟩
      · cases h1
      · injection h1 with _ _ h1; subst h1; simpa using h4
    obtain ⟨J0, hJ0⟩ : ∃ J, W7.heap.size = J := ⟨_, rfl⟩
    rw [hJ0] at bJ0 bJ1 hgj ⊢
    have l28 := l26.next (l67.next l78)
    have s8 := (l67.next l78).block SN (by have := (Array.getElem?_eq_some_iff.1 s6).1; omega)
    rw [s6] at s8
    have hgSN : gj ≠ SN := fun e => by obtain ⟨_, _, cur, f, h⟩ := hgj; rw [e, s8] at h; cases h
    have hgl : gj < W8.heap.size := hgj.2.1
    clear hj cellj rowj hgj hb7 s6
    go_wp2_with fail
    go_at_call 50; refine meet_any.mono ?_; rintro e W9 ⟨rfl, l89, hM⟩
    go_wp2_with fail
    go_at_call 51; refine without_any.mono ?_; rintro e W10 ⟨rfl, l910, hWo⟩
    obtain ⟨BM, hBM⟩ : ∃ J, W8.heap.size = J := ⟨_, rfl⟩
    obtain ⟨BW, hBW⟩ : ∃ J, W9.heap.size = J := ⟨_, rfl⟩
    rw [hBM] at hM ⊢
    rw [hBW] at hWo ⊢
    go_wp2_with fail
    have l1011 : Later W10 (W10.alloc (.cells #[.slice Ax nx cx, .slice Ay ny cy, .slice Az nz cz] 22)) := (Later.refl W10).alloc _
    have hb11 : (W10.alloc (.cells #[.slice Ax nx cx, .slice Ay ny cy, .slice Az nz cz] 22)).heap[W10.heap.size]? = some (.cells #[.slice Ax nx cx, .slice Ay ny cy, .slice Az nz cz] 22 (0, 0)) := World.alloc_heap_new W10 _
    obtain ⟨g10, hg10⟩ : ∃ g, W10.heap.size = g := ⟨_, rfl⟩
    rw [hg10] at hb11
    generalize hW11 : W10.alloc (.cells #[.slice Ax nx cx, .slice Ay ny cy, .slice Az nz cz] 22) = W11 at l1011 hb11
    have l810 := l89.next l910
    have l210 := l28.next l810
    have l211 := l210.next l1011
    have hj := join_ref (ls := [x, y, z]) (w := W11) (b0 := g10) (cap := 3) (fun i l hi => by
      match i, hi with
      | 0, hi => cases hi; exact ⟨Ax, cx, by rw [hnx.out]; simp [World.cell?, hb11], sx.later l211⟩
      | 1, hi => cases hi; exact ⟨Ay, cy, by rw [hny.out]; simp [World.cell?, hb11], sy.later l211⟩
      | 2, hi => cases hi; exact ⟨Az, cz, by rw [hnz.out]; simp [World.cell?, hb11], sz.later l211⟩
      | i + 3, hi => simp at hi) (Nat.le_refl _) (by simp) (by simp [hnx.out, hny.out, hnz.out]; omega)
    try rw [hg10]
    try rw [hW11]
    clear hW11 hb11
    go_at_call 52; refine hj.mono ?_; rintro e W12 ⟨v, rfl, rowa, l1112⟩
    have hla : (joinR [x, y, z]).length ≤ 2000000000000 := by
      have h := foldP_length ([x, y, z] : List (List (Int × Int))).flatten
      simp only [List.flatten_cons, List.flatten_nil, List.length_append, List.length_nil] at h
      have h2 : (joinR [x, y, z]).length = (foldP ([x, y, z] : List (List (Int × Int))).flatten).length := rfl
      simp only [List.flatten_cons, List.flatten_nil] at h2
      have h3 := hnx.out
      have h4 := hny.out
      have h5 := hnz.out
      omega
    obtain ⟨nA, hnA⟩ : ∃ n, (joinR [x, y, z]).length = n := ⟨_, rfl⟩
    obtain ⟨Aa', ca', rfl, sa, hba⟩ := row_slice2 rowa (by omega) hnA
    have l212 := l211.next l1112
    have hmr := meet_ref (sx.later l212) (sy.later l212) ((rises_iff _).2 hyr) (by have := hnx.out; omega)
    rw [hnx.out, hny.out] at hmr
    clear hj rowa
    go_wp2_with fail
    go_at_call 53; refine hmr.mono ?_; rintro e W13 ⟨v, rfl, rowb, l1213⟩
    have l213 := l212.next l1213
    have hlb := List.length_filter_le (fun e => hasL cmpR e y) x
    obtain ⟨nB, hnB⟩ : ∃ n, (x.filter fun e => hasL cmpR e y).length = n := ⟨_, rfl⟩
    obtain ⟨Ab', cb', rfl, sb, hbb⟩ := row_slice2 rowb (by have := hnx.out; omega) hnB
    have hwr := without_ref (sx.later l213) (sy.later l213) ((rises_iff _).2 hyr) (by have := hnx.out; omega)
    rw [hnx.out, hny.out] at hwr
    clear hmr rowb
    go_wp2_with fail
    go_at_call 54; refine hwr.mono ?_; rintro e W14 ⟨v, rfl, rowc, l1314⟩
    have hlc := List.length_filter_le (fun e => !hasL cmpR e y) x
    obtain ⟨nC, hnC⟩ : ∃ n, (x.filter fun e => !hasL cmpR e y).length = n := ⟨_, rfl⟩
    obtain ⟨Ac', cc', rfl, sc, hbc⟩ := row_slice2 rowc (by have := hnx.out; omega) hnC
    clear hwr rowc
    have l314 : Later W3 W14 := (l36.next (l67.next l78)).next (l810.next (l1011.next (l1112.next (l1213.next l1314))))
    have l214 : Later W2 W14 := l23.next l314
    have l814 : Later W8 W14 := l810.next (l1011.next (l1112.next (l1213.next l1314)))
    have l1214 : Later W12 W14 := l1213.next l1314
    have hSNl : SN < W8.heap.size := (Array.getElem?_eq_some_iff.1 s8).1
    have hs14 : Sn W14 SN 0 0 0 := ⟨0, 0, 0, ⟨by omega, by omega⟩, ⟨by omega, by omega⟩, ⟨by omega, by omega⟩, (l814.block SN hSNl).trans s8⟩
    have hbx : ∀ {A : Option Addr} {cap : Nat} {l : List (Int × Int)}, SliceAt W2 A cap l → ∀ f o, A = some ⟨f, o, none⟩ → l ≠ [] → f ≠ SN := fun h f o e h0 => by have := h.block f o e h0; omega
    have M : Mx W14 SN x y z Lp (Lp + 1) Lq (Lq + 1) Lr (Lr + 1) := by
      have h1 := hnx.out
      have h2 := hny.out
      have h3 := hnz.out
      refine ⟨hs14, ⟨Ax, cx, sx.later l214, ?_, ?_, hbx sx, by omega⟩, ⟨Ay, cy, sy.later l214, ?_, ?_, hbx sy, by omega⟩, ⟨Az, cz, sz.later l214, ?_, ?_, hbx sz, by omega⟩, hxr, hyr, hzr⟩
      · rw [h1]; exact boxed_later bp1 ((l45.next l56).next ((l67.next l78).next l814))
      · exact boxed_later bp2 ((l45.next l56).next ((l67.next l78).next l814))
      · rw [h2]; exact boxed_later bq1 (l56.next ((l67.next l78).next l814))
      · exact boxed_later bq2 (l56.next ((l67.next l78).next l814))
      · rw [h3]; exact boxed_later br1 ((l67.next l78).next l814)
      · exact boxed_later br2 ((l67.next l78).next l814)
    have hsz8 : W8.heap.size ≤ W10.heap.size := l810.size
    have hsz12 : W8.heap.size ≤ W12.heap.size := Nat.le_trans hsz8 (Nat.le_trans l1011.size l1112.size)
    have hsz11 : W8.heap.size ≤ W11.heap.size := Nat.le_trans hsz8 l1011.size
    have hsz13 : W8.heap.size ≤ W13.heap.size := Nat.le_trans hsz12 l1213.size
    have hJ : ∀ {n1 n2 n3 : Nat} {V : World}, Mg W14 SN n1 n2 n3 V → n1 ≤ 100 ∧ n2 ≤ 100 ∧ n3 ≤ 100 → _ := fun hV hn => join_m M (boxed_later bJ0 l814) (boxed_later bJ1 l814) hcj4 hgSN ⟨l814.cell cj0, l814.cell cj1, l814.cell cj2, l814.cell cj3⟩ hV hn
    have hMt : ∀ {n1 n2 n3 : Nat} {V : World}, Mg W14 SN n1 n2 n3 V → n1 ≤ 100 ∧ n2 ≤ 100 → _ := fun hV hn => split_m M (hM.later (l910.next (l1011.next (l1112.next (l1213.next l1314))))) hV hn
    have hWt : ∀ {n1 n2 n3 : Nat} {V : World}, Mg W14 SN n1 n2 n3 V → n1 ≤ 100 ∧ n2 ≤ 100 → _ := fun hV hn => split_m M (hWo.later (l1011.next (l1112.next (l1213.next l1314)))) hV hn
    rw [split_both hxr hyr] at hMt
    rw [split_rest hxr hyr] at hWt
    have hnea : ∀ f o, Aa' = some ⟨f, o, none⟩ → joinR [x, y, z] ≠ [] → f ≠ SN := fun f o e _ => by have := (hba f o e).1; omega
    have hneb : ∀ f o, Ab' = some ⟨f, o, none⟩ → (x.filter fun e => hasL cmpR e y) ≠ [] → f ≠ SN := fun f o e _ => by have := (hbb f o e).1; omega
    have hnec : ∀ f o, Ac' = some ⟨f, o, none⟩ → (x.filter fun e => !hasL cmpR e y) ≠ [] → f ≠ SN := fun f o e _ => by have := (hbc f o e).1; omega
    have sa14 := sa.later l1214
    have sb14 := sb.later l1314
    have hnBz : nB ≤ 2000000000000 := by have := hnx.out; omega
    have hnCz : nC ≤ 2000000000000 := by have := hnx.out; omega
    have hnAz : nA ≤ 2000000000000 := by omega
    generalize joinR [x, y, z] = La at hJ hnA sa14 hnea
    generalize (x.filter fun e => hasL cmpR e y) = Lb at hMt hnB sb14 hneb
    generalize (x.filter fun e => !hasL cmpR e y) = Lc at hWt hnC sc hnec
    have tJ : ∀ {n1 n2 n3 : Nat} {V : World}, Mg W14 SN n1 n2 n3 V → n1 ≤ 100 ∧ n2 ≤ 100 ∧ n3 ≤ 100 → Calls Try.prog 25 #[joinV J0, .slice Aa' nA ca'] V fun e U => e = .returned (.bool true) ∧ Mg W14 SN (n1 + 1) (n2 + 1) (n3 + 1) U := fun hV hn => by
      have := told_m hs14 hV (hJ hV hn) enters78 sa14 hnea (by omega)
      rwa [hnA] at this
    have tM : ∀ {n1 n2 n3 : Nat} {V : World}, Mg W14 SN n1 n2 n3 V → n1 ≤ 100 ∧ n2 ≤ 100 → Calls Try.prog 25 #[splitV BM, .slice Ab' nB cb'] V fun e U => e = .returned (.bool true) ∧ Mg W14 SN (n1 + 1) (n2 + 1) n3 U := fun hV hn => by
      have := told_m hs14 hV (hMt hV hn) enters89 sb14 hneb (by omega)
      rwa [hnB] at this
    have tW : ∀ {n1 n2 n3 : Nat} {V : World}, Mg W14 SN n1 n2 n3 V → n1 ≤ 100 ∧ n2 ≤ 100 → Calls Try.prog 25 #[splitV BW, .slice Ac' nC cc'] V fun e U => e = .returned (.bool true) ∧ Mg W14 SN (n1 + 1) (n2 + 1) n3 U := fun hV hn => by
      have := told_m hs14 hV (hWt hV hn) enters89 sc hnec (by omega)
      rwa [hnC] at this
    have gJ : ∀ {n1 n2 n3 : Nat} {V : World} (m : Nat), Mg W14 SN n1 n2 n3 V → n1 ≤ 100 ∧ n2 ≤ 100 ∧ n3 ≤ 100 → Calls Try.prog 18 #[joinV J0, .int .i64 m] V fun e U => ∃ v, e = .returned v ∧ U.ownsRow V.heap.size 27 2 v (La.take m).length (flat (La.take m)) ∧ Mg W14 SN (n1 + 1) (n2 + 1) (n3 + 1) U := fun m hV hn => gathered_m m hs14 hV (hJ hV hn) enters78 (by omega)
    have gM : ∀ {n1 n2 n3 : Nat} {V : World} (m : Nat), Mg W14 SN n1 n2 n3 V → n1 ≤ 100 ∧ n2 ≤ 100 → Calls Try.prog 18 #[splitV BM, .int .i64 m] V fun e U => ∃ v, e = .returned v ∧ U.ownsRow V.heap.size 27 2 v (Lb.take m).length (flat (Lb.take m)) ∧ Mg W14 SN (n1 + 1) (n2 + 1) n3 U := fun m hV hn => gathered_m m hs14 hV (hMt hV hn) enters89 (by omega)
    have gW : ∀ {n1 n2 n3 : Nat} {V : World} (m : Nat), Mg W14 SN n1 n2 n3 V → n1 ≤ 100 ∧ n2 ≤ 100 → Calls Try.prog 18 #[splitV BW, .int .i64 m] V fun e U => ∃ v, e = .returned v ∧ U.ownsRow V.heap.size 27 2 v (Lc.take m).length (flat (Lc.take m)) ∧ Mg W14 SN (n1 + 1) (n2 + 1) n3 U := fun m hV hn => gathered_m m hs14 hV (hWt hV hn) enters89 (by omega)
    have sJ : ∀ {n1 n2 n3 m c1 : Nat} {V : World} {A1 : Option Addr}, Mg W14 SN n1 n2 n3 V → m ≤ La.length → SliceAt V A1 c1 (La.take m) → Calls Try.prog 14 #[.slice A1 m c1, .slice Aa' m ca'] V fun e U => e = .returned (.bool true) ∧ Mg W14 SN n1 n2 n3 U := fun hV hm h1 => same_m hs14.lt hV sa14 hnea hm h1
    have sM : ∀ {n1 n2 n3 m c1 : Nat} {V : World} {A1 : Option Addr}, Mg W14 SN n1 n2 n3 V → m ≤ Lb.length → SliceAt V A1 c1 (Lb.take m) → Calls Try.prog 14 #[.slice A1 m c1, .slice Ab' m cb'] V fun e U => e = .returned (.bool true) ∧ Mg W14 SN n1 n2 n3 U := fun hV hm h1 => same_m hs14.lt hV sb14 hneb hm h1
    have sW : ∀ {n1 n2 n3 m c1 : Nat} {V : World} {A1 : Option Addr}, Mg W14 SN n1 n2 n3 V → m ≤ Lc.length → SliceAt V A1 c1 (Lc.take m) → Calls Try.prog 14 #[.slice A1 m c1, .slice Ac' m cc'] V fun e U => e = .returned (.bool true) ∧ Mg W14 SN n1 n2 n3 U := fun hV hm h1 => same_m hs14.lt hV sc hnec hm h1
    have gM1 : ∀ {n1 n2 n3 : Nat} {V : World}, Mg W14 SN n1 n2 n3 V → n1 ≤ 100 ∧ n2 ≤ 100 → Calls Try.prog 18 #[splitV BM, .int .i64 1] V fun e U => ∃ v, e = .returned v ∧ U.ownsRow V.heap.size 27 2 v (Lb.take 1).length (flat (Lb.take 1)) ∧ Mg W14 SN (n1 + 1) (n2 + 1) n3 U := fun hV hn => gM 1 hV hn
    have gW1 : ∀ {n1 n2 n3 : Nat} {V : World}, Mg W14 SN n1 n2 n3 V → n1 ≤ 100 ∧ n2 ≤ 100 → Calls Try.prog 18 #[splitV BW, .int .i64 1] V fun e U => ∃ v, e = .returned v ∧ U.ownsRow V.heap.size 27 2 v (Lc.take 1).length (flat (Lc.take 1)) ∧ Mg W14 SN (n1 + 1) (n2 + 1) n3 U := fun hV hn => gW 1 hV hn
    have hcapB := sb14.1
    have hcapC := sc.1
    have m0 : Mg W14 SN 0 0 0 W14 := ⟨hs14, Chg.refl _ _⟩
    have lw14 : Later w W14 := l2.next l214
    have k3w := l214.cell k3'
    have hNs : N0 < SN := by rw [← hSN, ← hN0]; exact cell_lt (by rw [hN0]; exact k3')
    have hSNw : w.heap.size ≤ SN := by omega
    have eF0 := eqF29 78 #[.pointer (some ⟨J0, 0, none⟩), .pointer (some ⟨J0 + 1, 0, none⟩)]
    have eF1 := eqF29 89 #[.pointer (some ⟨BM, 0, none⟩), .pointer (some ⟨BM + 1, 0, none⟩), .pointer (some ⟨BM + 1 + 1, 0, none⟩), .pointer (some ⟨BM + 1 + 1 + 1, 0, none⟩)]
    have eF2 := eqF29 89 #[.pointer (some ⟨BW, 0, none⟩), .pointer (some ⟨BW + 1, 0, none⟩), .pointer (some ⟨BW + 1 + 1, 0, none⟩), .pointer (some ⟨BW + 1 + 1 + 1, 0, none⟩)]
    clear hJ hMt hWt gM gW hnea hneb hnec hba hbb hbc sa sb sx sy sz hxr hyr hzr l1214 l314 l214 l814 l2 l23 l34 l45 l56 l36 l26 l67 l78 l28 l89 l910 l1011 l810 l210 l211 l1112 l212 l1213 l213 l1314 hsz8 hsz11 hsz12 hsz13 M hbx hM hWo bJ0 bJ1 cj0 cj1 cj2 cj3 bp1 bp2 bq1 bq2 br1 br2 s8 hlb hlc hla k3' hsum hxz hyz hzz hSNl
    go_wp2_with fail
    refine (tJ m0 (by omega)).mono ?_; rintro e V1 ⟨rfl, m1⟩
    go_wp2_with fail
    refine (tM m1 (by omega)).mono ?_; rintro e V2 ⟨rfl, m2⟩
    go_wp2_with fail
    refine (tW m2 (by omega)).mono ?_; rintro e V3 ⟨rfl, m3⟩
    go_wp2_with fail
    refine (tJ m3 (by omega)).mono ?_; rintro e V4 ⟨rfl, m4⟩
    go_wp2_with fail
    refine (tM m4 (by omega)).mono ?_; rintro e V5 ⟨rfl, m5⟩
    go_wp2_with fail
    refine (tW m5 (by omega)).mono ?_; rintro e V6 ⟨rfl, m6⟩
    go_wp2_with fail
    have m6' : Mg W14 SN 6 6 2 V6 := m6
    have l67 : Later V6 (V6.alloc (.cells #[.int .i64 6, .int .i64 6, .int .i64 2] 23)) := (Later.refl V6).alloc _
    have hb7 : (V6.alloc (.cells #[.int .i64 6, .int .i64 6, .int .i64 2] 23)).heap[V6.heap.size]? = some (.cells #[.int .i64 6, .int .i64 6, .int .i64 2] 23 (0, 0)) := World.alloc_heap_new V6 _
    obtain ⟨NM, hNM⟩ : ∃ N, V6.heap.size = N := ⟨_, rfl⟩
    rw [hNM] at hb7 ⊢
    have m7 : Mg W14 SN 6 6 2 (V6.alloc (.cells #[.int .i64 6, .int .i64 6, .int .i64 2] 23)) := Mg.chg m6' (X := fun _ => False) l67.chg (fun _ h => h.elim) hs14.lt
    clear m0 m1 m2 m3 m4 m5 m6 m6' l67 tJ tM tW hNM
    generalize V6.alloc (.cells #[.int .i64 6, .int .i64 6, .int .i64 2] 23) = V7 at hb7 m7 ⊢
    have hcl : ∀ W', Later V7 W' → W'.cell? ⟨SN, 0, none⟩ = some (.int .i64 6) ∧ W'.cell? ⟨SN, 1, none⟩ = some (.int .i64 6) ∧ W'.cell? ⟨SN, 3, none⟩ = some (.int .i64 6) ∧ W'.cell? ⟨SN, 4, none⟩ = some (.int .i64 6) ∧ W'.cell? ⟨SN, 6, none⟩ = some (.int .i64 2) ∧ W'.cell? ⟨SN, 7, none⟩ = some (.int .i64 2) ∧ W'.cell? ⟨NM, 0, none⟩ = some (.int .i64 6) ∧ W'.cell? ⟨NM, 1, none⟩ = some (.int .i64 6) ∧ W'.cell? ⟨NM, 2, none⟩ = some (.int .i64 2) := fun W' l => by
      obtain ⟨h1, h2, h3, h4, h5, h6⟩ := m7.1.cells
      exact ⟨l.cell h1, l.cell h2, l.cell h3, l.cell h4, l.cell h5, l.cell h6, l.cell (by simp [World.cell?, hb7]), l.cell (by simp [World.cell?, hb7]), l.cell (by simp [World.cell?, hb7])⟩
    go_loopw [17] (fun i wr => ∃ k' : Nat, k' ≤ 3 ∧ i = .int .i64 k' ∧ Later V7 wr) (fun i _ => 3 - (intOf i).toNat)
    case atStart => exact ⟨0, Nat.zero_le _, rfl, Later.refl _⟩
    case round =>
      obtain ⟨k', hk', rfl, lk⟩ := hrel
      by_cases hlt : k' < 3
      · have hG0 := Later.drew (Later.refl wr)
        obtain ⟨Good, hGd⟩ : ∃ G : World → Prop, ∀ W', G W' ↔ Later wr W' := ⟨_, fun _ => Iff.rfl⟩
        replace hG0 := (hGd _).2 hG0
        have hne : Nonempty (InG Good) := ⟨⟨_, hG0⟩⟩
        have g0 := fun p : InG Good => hcl p.W (lk.next ((hGd _).1 p.h))
        replace hGd := hid hGd
        have : k' = 0 ∨ k' = 1 ∨ k' = 2 := by omega
        rcases this with rfl | rfl | rfl
        · go_wp2_with fail
          refine region_in Good (by kernel_rfl) (by kernel_rfl) hG0 ?_
          repeat (go_big_quiet_step (fail))
          refine wpQuiet_nil ?_
          intro w7 hw7
          have l7 := (hGd.out _).1 hw7
          clear hGd hne hG0 hw7 g0
          go_wp2_with fail
          go_roundw
          case rel => exact ⟨1, by omega, by go_num, lk.next l7⟩
          case measure => simp [intOf]
        · go_wp2_with fail
          refine region_in Good (by kernel_rfl) (by kernel_rfl) hG0 ?_
          repeat (go_big_quiet_step (fail))
          refine wpQuiet_nil ?_
          intro w7 hw7
          have l7 := (hGd.out _).1 hw7
          clear hGd hne hG0 hw7 g0
          go_wp2_with fail
          go_roundw
          case rel => exact ⟨2, by omega, by go_num, lk.next l7⟩
          case measure => simp [intOf]
        · go_wp2_with fail
          refine region_in Good (by kernel_rfl) (by kernel_rfl) hG0 ?_
          repeat (go_big_quiet_step (fail))
          refine wpQuiet_nil ?_
          intro w7 hw7
          have l7 := (hGd.out _).1 hw7
          clear hGd hne hG0 hw7 g0
          go_wp2_with fail
          go_roundw
          case rel => exact ⟨3, by omega, by go_num, lk.next l7⟩
          case measure => simp [intOf]
      · obtain rfl : k' = 3 := by omega
        have m8 : Mg W14 SN 6 6 2 wr := Mg.chg m7 (X := fun _ => False) lk.chg (fun _ h => h.elim) hs14.lt
        have k8 := m8.2.cell k3w (fun h => h.elim (fun h => by omega) (fun h => by have := hs14.lt; omega))
        clear hcl m7 hb7
        go_wp2_with fail
        obtain ⟨m, hm, hmA⟩ : ∃ m : Nat, k % ((nA : Int) + 1) = m ∧ m ≤ nA := by
          have h1 := Int.emod_nonneg k (b := (nA : Int) + 1) (by omega)
          have h2 := Int.emod_lt_of_pos k (b := (nA : Int) + 1) (by omega)
          exact ⟨(k % ((nA : Int) + 1)).toNat, by omega, by omega⟩
        refine (pick_any k ((nA : Int) + 1) wr (by omega) (by omega)).mono ?_; rintro e w3 ⟨rfl, rfl⟩
        rw [hm]
        replace hm := hid hm
        have hl18 : (La.take m).length = m := List.length_take_of_le (by omega)
        have hca : m ≤ ca' := by have := sa14.1; omega
        go_upto_region 18 with fail
        have m8d : Mg W14 SN 6 6 2 wr.drew := Mg.chg m8 (X := fun _ => False) (Later.refl wr).drew.chg (fun _ h => h.elim) hs14.lt
        obtain ⟨mB, hmB⟩ : ∃ mB : Nat, min 1 nB = mB := ⟨_, rfl⟩
        obtain ⟨mC, hmC⟩ : ∃ mC : Nat, min 1 nC = mC := ⟨_, rfl⟩
        have hlB : (Lb.take 1).length = mB := by rw [List.length_take, hnB]; exact hmB
        have hlC : (Lc.take 1).length = mC := by rw [List.length_take, hnC]; exact hmC
        have htB : Lb.take 1 = Lb.take mB := by
          rw [← hmB]
          by_cases h : nB = 0
          · rw [h, List.take_of_length_le (by omega), List.take_of_length_le (by omega)]
          · rw [Nat.min_eq_left (by omega)]
        have htC : Lc.take 1 = Lc.take mC := by
          rw [← hmC]
          by_cases h : nC = 0
          · rw [h, List.take_of_length_le (by omega), List.take_of_length_le (by omega)]
          · rw [Nat.min_eq_left (by omega)]
        rw [htB] at gM1
        rw [htC] at gW1
        have hiB : (if (nB : Int) < 1 then (nB : Int) else 1) = (mB : Int) := by split <;> omega
        have hiC : (if (nC : Int) < 1 then (nC : Int) else 1) = (mC : Int) := by split <;> omega
        have hcB : mB ≤ cb' := by omega
        have hcC : mC ≤ cc' := by omega
        have hmBz : mB ≤ Lb.length := by omega
        have hmCz : mC ≤ Lc.length := by omega
        have hmAz : m ≤ La.length := by omega
        have hxB : (Lb.take mB).length = mB := List.length_take_of_le hmBz
        have hxC : (Lc.take mC).length = mC := List.length_take_of_le hmCz
        have hmBy : mB ≤ 4611686018427387904 := by omega
        have hmCy : mC ≤ 4611686018427387904 := by omega
        have iA0 : (0 : Int) ≤ (m : Int) := by omega
        have iA1 : (m : Int) ≤ (ca' : Int) := by omega
        have iB0 : (0 : Int) ≤ (mB : Int) := by omega
        have iB1 : (mB : Int) ≤ (cb' : Int) := by omega
        have iC0 : (0 : Int) ≤ (mC : Int) := by omega
        have iC1 : (mC : Int) ≤ (cc' : Int) := by omega
        replace hxB := hid hxB
        replace hxC := hid hxC
        replace hmB := hid hmB
        replace hmC := hid hmC
        replace hlB := hid hlB
        replace hlC := hid hlC
        clear htB htC
        replace hl18 := hid hl18
        clear hnA hnB hnC
        go_cut [163] (fun v wx => v = .bool false ∧ Mg W14 SN 9 9 3 wx)
        case first =>
          go_region_held3 (fun W' => True) (first | trivial) (first
            | (go_at_call 18; (with_reducible refine (gJ m m8d ⟨by omega, by omega, by omega⟩).mono ?_); rintro e w4 ⟨v, rfl, row4, m9⟩; obtain ⟨A4, c4, rfl, s4, _⟩ := row_slice2 row4 (by have := hl18.out; omega) hl18.out)
            | (go_at_call 14; (with_reducible refine (sJ m9 hmAz s4).mono ?_); rintro e w5 ⟨rfl, m10⟩)
            | (go_at_call 18; (with_reducible refine (gM1 m10 ⟨by omega, by omega⟩).mono ?_); rintro e w6 ⟨v, rfl, row6, m11⟩; obtain ⟨A6, c6, rfl, s6, _⟩ := row_slice2 row6 (by rw [hxB.out]; exact hmBy) hxB.out)
            | (go_at_call 14; (with_reducible refine (sM m11 hmBz s6).mono ?_); rintro e w7 ⟨rfl, m12⟩)
            | (go_at_call 18; (with_reducible refine (gW1 m12 ⟨by omega, by omega⟩).mono ?_); rintro e w8 ⟨v, rfl, row8, m13⟩; obtain ⟨A8, c8, rfl, s8, _⟩ := row_slice2 row8 (by rw [hxC.out]; exact hmCy) hxC.out)
            | (go_at_call 14; (with_reducible refine (sW m13 hmCz s8).mono ?_); rintro e w9 ⟨rfl, m14⟩))
          all_goals (go_wp2_with fail; go_meet; exact ⟨by simp, m14⟩)
        case rest =>
          obtain ⟨rfl, m9⟩ := hcut
          clear gJ gM1 gW1 sJ sM sW
          rename World => Wn
          have hcl : ∀ W', Later Wn W' → W'.cell? ⟨SN, 0, none⟩ = some (.int .i64 9) ∧ W'.cell? ⟨SN, 1, none⟩ = some (.int .i64 9) ∧ W'.cell? ⟨SN, 3, none⟩ = some (.int .i64 9) ∧ W'.cell? ⟨SN, 4, none⟩ = some (.int .i64 9) ∧ W'.cell? ⟨SN, 6, none⟩ = some (.int .i64 3) ∧ W'.cell? ⟨SN, 7, none⟩ = some (.int .i64 3) := fun W' l => by
            obtain ⟨h1, h2, h3, h4, h5, h6⟩ := m9.1.cells
            exact ⟨l.cell h1, l.cell h2, l.cell h3, l.cell h4, l.cell h5, l.cell h6⟩
          have lwn : Later w Wn := Below.trans lw14 (Chg.below m9.2 lw14.size (fun b h => h.elim (fun h => by omega) (fun h => Nat.le_trans lw14.size h)))
          go_wp2_with fail
          go_loopw [19] (fun i wr => ∃ k' : Nat, k' ≤ 3 ∧ i = .int .i64 k' ∧ Later Wn wr) (fun i _ => 3 - (intOf i).toNat)
          case atStart => exact ⟨0, Nat.zero_le _, rfl, Later.refl _⟩
          case round =>
            obtain ⟨k', hk', rfl, lk⟩ := hrel
            by_cases hlt : k' < 3
            · have hG0 := Later.drew (Later.refl wr)
              obtain ⟨Good, hGd⟩ : ∃ G : World → Prop, ∀ W', G W' ↔ Later wr W' := ⟨_, fun _ => Iff.rfl⟩
              replace hG0 := (hGd _).2 hG0
              have hne : Nonempty (InG Good) := ⟨⟨_, hG0⟩⟩
              have g0 := fun p : InG Good => hcl p.W (lk.next ((hGd _).1 p.h))
              replace hGd := hid hGd
              have : k' = 0 ∨ k' = 1 ∨ k' = 2 := by omega
              rcases this with rfl | rfl | rfl
              · go_wp2_with fail
                refine region_in Good (by kernel_rfl) (by kernel_rfl) hG0 ?_
                repeat (go_big_quiet_step (fail))
                refine wpQuiet_nil ?_
                intro w7 hw7
                have l7 := (hGd.out _).1 hw7
                clear hGd hne hG0 hw7 g0
                go_wp2_with fail
                go_roundw
                case rel => exact ⟨1, by omega, by go_num, lk.next l7⟩
                case measure => simp [intOf]
              · go_wp2_with fail
                refine region_in Good (by kernel_rfl) (by kernel_rfl) hG0 ?_
                repeat (go_big_quiet_step (fail))
                refine wpQuiet_nil ?_
                intro w7 hw7
                have l7 := (hGd.out _).1 hw7
                clear hGd hne hG0 hw7 g0
                go_wp2_with fail
                go_roundw
                case rel => exact ⟨2, by omega, by go_num, lk.next l7⟩
                case measure => simp [intOf]
              · go_wp2_with fail
                refine region_in Good (by kernel_rfl) (by kernel_rfl) hG0 ?_
                repeat (go_big_quiet_step (fail))
                refine wpQuiet_nil ?_
                intro w7 hw7
                have l7 := (hGd.out _).1 hw7
                clear hGd hne hG0 hw7 g0
                go_wp2_with fail
                go_roundw
                case rel => exact ⟨3, by omega, by go_num, lk.next l7⟩
                case measure => simp [intOf]
            · obtain rfl : k' = 3 := by omega
              clear hcl
              go_wp2_with fail
              go_at_call 16; refine (awake_any wr).mono ?_; rintro e w9 ⟨rfl, l9⟩
              go_wp2_with fail
              go_ret
              exact ⟨rfl, lwn.next (lk.next l9)⟩
end Go.Proofs.Yteledidnhjioaaa.Sh
