import Derived.Test.YtdifabacbhfbbaaTf
namespace Go.Proofs.Ytdifabacbhfbbaa.Tu
open Go.RowKit Go.Lib Go.Proofs
set_option linter.unusedVariables false
set_option linter.unusedSimpArgs false
/-! ### rows of arguments -/
/-- an argument, whole -/
structure Arg where
  x : ArgV
  l : List ByteArray
abbrev ArgV.row (x : ArgV) (t : Value) : List Value := [.string x.name, .int .i64 x.kind, .bool x.b, .int .i64 x.i, .float .f32 x.r, .string x.text, t]
/-- the seven cells of an argument, from a place on -/
def Seven (W : World) (b o : Nat) (x : ArgV) (t : Value) : Prop :=
  W.cell? ⟨b, o, none⟩ = some (.string x.name) ∧ W.cell? ⟨b, o + 1, none⟩ = some (.int .i64 x.kind) ∧ W.cell? ⟨b, o + 2, none⟩ = some (.bool x.b) ∧ W.cell? ⟨b, o + 3, none⟩ = some (.int .i64 x.i) ∧ W.cell? ⟨b, o + 4, none⟩ = some (.float .f32 x.r) ∧ W.cell? ⟨b, o + 5, none⟩ = some (.string x.text) ∧ W.cell? ⟨b, o + 6, none⟩ = some t
theorem Seven.later {W V : World} {b o : Nat} {x : ArgV} {t : Value} (h : Seven W b o x t) (l : Later W V) : Seven V b o x t := by
  obtain ⟨h0, h1, h2, h3, h4, h5, h6⟩ := h
  exact ⟨l.cell h0, l.cell h1, l.cell h2, l.cell h3, l.cell h4, l.cell h5, l.cell h6⟩
def ArgsAt (W : World) (A : Option Addr) (L : List Arg) : Prop := ∀ (i : Nat) (a : Arg), L[i]? = some a → ∃ b o TA tc, A = some ⟨b, o, none⟩ ∧ Seven W b (o + i * 7) a.x (.slice TA a.l.length tc) ∧ TxtAt W TA a.l ∧ a.l.length ≤ 8796093022080
theorem ArgsAt.later {W V : World} {A : Option Addr} {L : List Arg} (h : ArgsAt W A L) (k : Later W V) : ArgsAt V A L := fun i a hi => by
  obtain ⟨b, o, TA, tc, e, h7, ht, hz⟩ := h i a hi
  exact ⟨b, o, TA, tc, e, h7.later k, ht.later k, hz⟩
/-- what LentArgs has made: the arguments, each with a row of texts of its own, and the marks behind them -/
structure LA (W : World) (g cap : Nat) (L : List Arg) : Prop where
  len : L.length + 24 ≤ cap
  arg : ∀ (i : Nat) (a : Arg), L[i]? = some a → ∃ tg tc, Seven W g (i * 7) a.x (.slice (some ⟨tg, 0, none⟩) a.l.length tc) ∧ LentAt W tg tc (a.l ++ marks)
  mark : ∀ j, j < 24 → W.cell? ⟨g, (L.length + j) * 7, none⟩ = some (.string (mk (j : Int)))
theorem LA.later {W V : World} {g cap : Nat} {L : List Arg} (h : LA W g cap L) (k : Later W V) : LA V g cap L :=
  ⟨h.len, fun i a hi => by obtain ⟨tg, tc, h7, hl⟩ := h.arg i a hi; exact ⟨tg, tc, h7.later k, hl.later k⟩, fun j hj => k.cell (h.mark j hj)⟩
theorem flat7 : ∀ (R : List (List Value)) (i j : Nat) (r : List Value), (∀ r ∈ R, r.length = 7) → R[i]? = some r → j < 7 → R.flatten[i * 7 + j]? = r[j]?
  | y :: R, 0, j, r, h, hi, hj => by
    simp at hi; subst hi
    rw [List.flatten_cons, Nat.zero_mul, Nat.zero_add, List.getElem?_append_left (by rw [h y (by simp)]; exact hj)]
  | y :: R, i + 1, j, r, h, hi, hj => by
    have hy := h y (by simp)
    rw [List.flatten_cons, List.getElem?_append_right (by rw [hy]; omega), hy, show (i + 1) * 7 + j - 7 = i * 7 + j by omega]
    exact flat7 R i j r (fun r hr => h r (by simp [hr])) (by simpa using hi) hj
theorem len7 : ∀ (R : List (List Value)), (∀ r ∈ R, r.length = 7) → R.flatten.length = R.length * 7
  | [], _ => rfl
  | y :: R, h => by
    rw [List.flatten_cons, List.length_append, len7 R (fun r hr => h r (by simp [hr])), h y (by simp), List.length_cons]; omega
theorem own_ne9 {W : World} {base z n g c e : Nat} {v : Value} {xs : List Value} {L : List ByteArray} (h : W.ownsRow base e z v n xs) (he : e ≠ 9) (ha : LentAt W g c L) : v.ownBlock ≠ some g := fun ee => by
  rcases h.2 with ⟨rfl, _⟩ | ⟨g', cap, cur, rfl, _, hg, _⟩
  · cases ee
  · cases ee
    obtain ⟨⟨ds, h1⟩, _⟩ := ha
    rw [hg] at h1
    injection h1 with h1
    injection h1 with _ h1 _
    exact he h1
theorem cells_new (W : World) (vs : List Value) (t : TypeId) : ∀ j u, vs[j]? = some u → (W.alloc (.cells vs.toArray t)).cell? ((⟨W.heap.size, 0, none⟩ : Addr).add j) = some u := by
  intro j u hj
  have h' := World.alloc_heap_new W (.cells vs.toArray t)
  have e : ((⟨W.heap.size, 0, none⟩ : Addr).add j) = ⟨W.heap.size, j, none⟩ := by
    unfold Addr.add
    split
    · next h => rw [h]
    · simp
  rw [e]
  simp only [World.cell?, h']
  simpa using hj
theorem info50 : (Try.prog.info? 50).map (fun i => (i.zero, i.size, i.bytes)) = some (some (.agg #[.string ⟨#[]⟩, .int .i64 0, .bool false, .int .i64 0, .float .f32 0, .string ⟨#[]⟩, .slice none 0 0]), 7, 88) := by kernel_rfl
/-- the arguments that have been laid so far -/
def Laid (W : World) (R : List (List Value)) (L : List Arg) : Prop :=
  (∀ r ∈ R, r.length = 7) ∧ ∀ (i : Nat) (a : Arg), i < R.length → L[i]? = some a → ∃ tg tc, R[i]? = some (a.x.row (.slice (some ⟨tg, 0, none⟩) a.l.length tc)) ∧ LentAt W tg tc (a.l ++ marks)
theorem Laid.kept {W V : World} {R : List (List Value)} {L : List Arg} {base z n : Nat} {v : Value} {xs : List Value} (h : Laid W R L) (ho : W.ownsRow base 50 z v n xs) (hg : W.grownBy V v.ownBlock) : Laid V R L :=
  ⟨h.1, fun i a hi ha => by obtain ⟨tg, tc, h1, h2⟩ := h.2 i a hi ha; exact ⟨tg, tc, h1, h2.kept hg (own_ne9 ho (by decide) h2)⟩⟩
theorem Laid.later {W V : World} {R : List (List Value)} {L : List Arg} (h : Laid W R L) (l : Later W V) : Laid V R L :=
  ⟨h.1, fun i a hi ha => by obtain ⟨tg, tc, h1, h2⟩ := h.2 i a hi ha; exact ⟨tg, tc, h1, h2.later l⟩⟩
theorem Laid.snoc {W : World} {R : List (List Value)} {L : List Arg} {a : Arg} {tg tc : Nat} (h : Laid W R L) (ha : L[R.length]? = some a) (hl : LentAt W tg tc (a.l ++ marks)) : Laid W (R ++ [a.x.row (.slice (some ⟨tg, 0, none⟩) a.l.length tc)]) L := by
  refine ⟨fun r hr => ?_, fun i b hi hb => ?_⟩
  · rcases List.mem_append.1 hr with hr | hr
    · exact h.1 r hr
    · rw [List.mem_singleton.1 hr]; rfl
  · by_cases hlt : i < R.length
    · obtain ⟨tg', tc', h1, h2⟩ := h.2 i b hlt hb
      exact ⟨tg', tc', by rw [List.getElem?_append_left hlt]; exact h1, h2⟩
    · rw [List.length_append, List.length_singleton] at hi
      obtain rfl : i = R.length := by omega
      rw [ha] at hb
      injection hb with hb
      subst hb
      exact ⟨tg, tc, by simp, hl⟩
abbrev markR (j : Nat) : List Value := [.string (mk (j : Int)), .int .i64 0, .bool false, .int .i64 0, .float .f32 0, .string ⟨#[]⟩, .slice none 0 0]
def marksR (j : Nat) : List (List Value) := (List.range j).map markR
theorem marksR_succ (j : Nat) : marksR (j + 1) = marksR j ++ [markR j] := by simp [marksR, List.range_succ]
theorem marksR_len (j : Nat) : (marksR j).length = j := by simp [marksR]
theorem flat_snoc7 (R : List (List Value)) (r : List Value) : (R ++ [r]).flatten = R.flatten ++ r := by simp
set_option maxHeartbeats 8000000 in
set_option maxRecDepth 100000 in
theorem lent_args {L : List Arg} {w : World} {A : Option Addr} {n c : Nat} (hA : ArgsAt w A L) (hn : L.length = n) (hz : n ≤ 2000000000000) :
    Calls Try.prog 16 #[.slice A n c] w fun e w' => ∃ g cap, e = .returned (.slice (some ⟨g, 0, none⟩) n cap) ∧ LA w' g cap L ∧ w.heap.size ≤ g ∧ Later w w' := by
  obtain ⟨i0, hi, hz0, hz1, hz2⟩ := info_parts info50
  go_enter Try.func16, Try.ntmps16
  go_wp2_with fail
  go_loopw [3, 4] (fun v i wr => ∃ (k : Nat) (R : List (List Value)), k ≤ n ∧ i = .int .i64 k ∧ R.length = k ∧ wr.ownsRow w.heap.size 50 7 v k R.flatten ∧ Laid wr R L ∧ Later w wr) (fun _ i _ => n - (intOf i).toNat)
  case atStart => exact ⟨0, [], Nat.zero_le _, rfl, rfl, World.ownsRow_nil .., ⟨by simp, by simp⟩, Later.refl _⟩
  case round =>
    obtain ⟨k, R, hk, rfl, hR, hr, hla, lk⟩ := hrel
    by_cases hlt : k < n
    · obtain ⟨a, ha⟩ : ∃ a, L[k]? = some a := ⟨_, List.getElem?_eq_getElem (by omega)⟩
      obtain ⟨b, o, TA, tc, rfl, h7, ht, hlz⟩ := hA.later lk k a ha
      obtain ⟨c0, c1, c2, c3, c4, c5, c6⟩ := h7
      obtain ⟨m, hm⟩ : ∃ m, a.l.length = m := ⟨_, rfl⟩
      have hcall := lent_arg a.x (c := tc) ht rfl hlz
      have hsn := fun {W : World} (h : Laid W R L) {tg t2 : Nat} (hl : LentAt W tg t2 (a.l ++ marks)) => h.snoc (a := a) (by rw [hR]; exact ha) hl
      rw [hm] at c6 hcall hsn
      clear ht hlz ha
      have hsz := lk.size
      go_wp2_with (first
        | (go_at_call 29; refine hcall.mono ?_; rintro e w4 ⟨tg, t2, rfl, hlent, htg, l4⟩)
        | (at_builtin; refine wpList_append_own_wide _ rfl _ _ 28 rfl w.heap.size 50 i0 (.agg #[.string ⟨#[]⟩, .int .i64 0, .bool false, .int .i64 0, .float .f32 0, .string ⟨#[]⟩, .slice none 0 0]) 7 88 Try.underlying28 hi hz0 hz1 hz2 rfl (by decide) _ k _ rfl ((own_later hr l4).alloc _) ⟨_, 0, none⟩ 1 1 (a.x.row (.slice (some ⟨tg, 0, none⟩) m t2)) rfl rfl (cells_new _ _ _) (by simp [Value.oneCell']) (by unfold maxLen; omega) (by omega) (by have := l4.size; simp; omega) ?_; intro v' w1 hown' hgrow _))
      go_wp2_with fail
      go_roundw
      case rel =>
        have hal : Later w4 (w4.alloc (.cells (a.x.row (.slice (some ⟨tg, 0, none⟩) m t2)).toArray 50)) := (Later.refl w4).alloc _
        have h2 := hsn (((hla.later l4).later hal)) (hlent.later hal)
        have hrow := (own_later hr l4).alloc (.cells (a.x.row (.slice (some ⟨tg, 0, none⟩) m t2)).toArray 50)
        exact ⟨k + 1, R ++ [a.x.row (.slice (some ⟨tg, 0, none⟩) m t2)], by omega, by go_num, by simp [hR], by rw [flat_snoc7]; exact hown', h2.kept hrow hgrow, below_own hrow ((lk.next l4).next hal) (by have := l4.size; have := hal.size; omega) hgrow⟩
      case measure => simp [intOf]; omega
    · obtain rfl : k = n := by omega
      clear hk hlt
      go_wp2_with fail
      go_loopw [3, 5] (fun v i wr' => ∃ j : Nat, j ≤ 24 ∧ i = .int .i64 j ∧ wr'.ownsRow w.heap.size 50 7 v (k + j) (R ++ marksR j).flatten ∧ Laid wr' R L ∧ Later w wr') (fun _ i _ => 24 - (intOf i).toNat)
      case atStart => exact ⟨0, Nat.zero_le _, rfl, by rw [show marksR 0 = [] from rfl, List.append_nil]; exact hr, hla, lk⟩
      case round =>
        obtain ⟨j, hj, rfl, hr2, hla2, l2⟩ := hrel
        by_cases hlt : j < 24
        · have hsz := l2.size
          have hsz3 : ∀ V, Later wr V → w.heap.size ≤ V.heap.size := fun V h => Nat.le_trans hsz h.size
          clear hr hla lk
          go_wp2_with (first
            | (go_at_call 30; refine (mark_any 1 (j : Int) _).mono ?_; rintro e w3 ⟨rfl, l3⟩)
            | (at_builtin; refine wpList_append_own_wide _ rfl _ _ 28 rfl w.heap.size 50 i0 (.agg #[.string ⟨#[]⟩, .int .i64 0, .bool false, .int .i64 0, .float .f32 0, .string ⟨#[]⟩, .slice none 0 0]) 7 88 Try.underlying28 hi hz0 hz1 hz2 rfl (by decide) _ (k + j) _ rfl ((own_later hr2 l3).alloc _) ⟨_, 0, none⟩ 1 1 (markR j) rfl rfl (cells_new _ _ _) (by simp [Value.oneCell']) (by unfold maxLen; omega) (by omega) (by rw [World.size_alloc]; exact Nat.le_succ_of_le (hsz3 _ l3)) ?_; intro v' w1 hown' hgrow _))
          go_wp2_with fail
          go_roundw
          case rel =>
            have hal : Later w3 (w3.alloc (.cells (markR j).toArray 50)) := (Later.refl w3).alloc _
            have hrow := (own_later hr2 l3).alloc (.cells (markR j).toArray 50)
            exact ⟨j + 1, by omega, by go_num, by rw [marksR_succ, ← List.append_assoc, flat_snoc7]; exact hown', ((hla2.later l3).later hal).kept hrow hgrow, below_own hrow ((l2.next l3).next hal) (by rw [World.size_alloc]; exact Nat.le_succ_of_le (hsz3 _ l3)) hgrow⟩
          case measure => simp [intOf]; omega
        · obtain rfl : j = 24 := by omega
          obtain ⟨g, cap, rfl, hg, hgl, hcap⟩ := row_form hr2 (by omega)
          have q1 : (0 : Int) ≤ (k : Int) := by omega
          have q2 : (k : Int) ≤ (cap : Int) := by omega
          have h7 : ∀ r ∈ R ++ marksR 24, r.length = 7 := fun r hr => by
            rcases List.mem_append.1 hr with hr | hr
            · exact hla2.1 r hr
            · obtain ⟨q, _, rfl⟩ := List.mem_map.1 hr; rfl
          have hcell : ∀ i j' r u, (R ++ marksR 24)[i]? = some r → j' < 7 → r[j']? = some u → wr.cell? ⟨g, i * 7 + j', none⟩ = some u := fun i j' r u hi hj' hu => by
            have hil := (List.getElem?_eq_some_iff.1 hi).1
            rw [List.length_append, marksR_len, hR] at hil
            rw [hr2.cellAt (i * 7 + j') (by omega), flat7 _ i j' r h7 hi hj', hu]
          have hLA : LA wr g cap L := by
            refine ⟨by omega, fun i a ha => ?_, fun q hq => ?_⟩
            · have hil := (List.getElem?_eq_some_iff.1 ha).1
              obtain ⟨tg, tc, h1, h2⟩ := hla2.2 i a (by omega) ha
              have h1' : (R ++ marksR 24)[i]? = some (a.x.row (.slice (some ⟨tg, 0, none⟩) a.l.length tc)) := by rw [List.getElem?_append_left (by omega)]; exact h1
              exact ⟨tg, tc, ⟨hcell i 0 _ _ h1' (by omega) rfl, hcell i 1 _ _ h1' (by omega) rfl, hcell i 2 _ _ h1' (by omega) rfl, hcell i 3 _ _ h1' (by omega) rfl, hcell i 4 _ _ h1' (by omega) rfl, hcell i 5 _ _ h1' (by omega) rfl, hcell i 6 _ _ h1' (by omega) rfl⟩, h2⟩
            · have h1' : (R ++ marksR 24)[L.length + q]? = some (markR q) := by
                rw [List.getElem?_append_right (by omega), show L.length + q - R.length = q by omega]
                simp [marksR, hq]
              exact hcell (L.length + q) 0 _ _ h1' (by omega) rfl
          clear hcell h7 hr hla lk
          go_wp2_with fail
          go_ret
          exact ⟨_, _, rfl, hLA, hg, l2⟩
end Go.Proofs.Ytdifabacbhfbbaa.Tu
