import Derived.Test.YteedjhoffjkhmaaDoorPTx0
import Derived.Test.YteedjhoffjkhmaaDoorPTx3
import Derived.Test.YteedjhoffjkhmaaDoorPTx4
import Derived.Test.YteedjhoffjkhmaaDoorPTx5
namespace Go.Proofs.YteedjhoffjkhmaaDoor.PT
open Go.RowKit Go.Proofs.YteedjhoffjkhmaaDoorW.PrintWords Go.Proofs.YteedjhoffjkhmaaDoorW.PrintLast Go.Proofs.YteedjhoffjkhmaaDoorW.PrintMore
attribute [local go_sem] max2_int min2_int max_two min_two max_three min_three max_four min_four
set_option linter.unusedVariables false
set_option linter.unusedSimpArgs false
theorem class_small {r : Int} (h0 : 97 ≤ r) (h1 : r ≤ 122) : tokens_class.f r = some 1 := by
 unfold tokens_class.f
 rw [small_true h0 h1]
 rfl
theorem class_digit {r : Int} (h0 : 48 ≤ r) (h1 : r ≤ 57) : tokens_class.f r = some 2 := by
 unfold tokens_class.f
 rw [small_false (by omega), digit_true h0 h1]
 rfl
theorem class_quote {r : Int} (h : r = 34) : tokens_class.f r = some 3 := by
 unfold tokens_class.f
 rw [small_false (by omega), digit_false (by omega), h]
 rfl
theorem class_other {r : Int} (h0 : ¬ (97 ≤ r ∧ r ≤ 122)) (h1 : ¬ (48 ≤ r ∧ r ≤ 57)) (h2 : r ≠ 34) : tokens_class.f r = some 0 := by
 unfold tokens_class.f
 rw [small_false h0, digit_false h1]
 simp [h2]
def NX (w0 w : World) (g : Nat) (s : ByteArray) (a l h : Nat) (k0 : Int) (W : World) : Prop :=
 IsS53 w0 W g s a l h ∧ Below w0.heap.size w0 W ∧ KeepBut w W g none ∧ w.heap.size ≤ W.heap.size ∧ g < w.heap.size ∧ w0.heap.size ≤ w.heap.size ∧
 W.heap[w.heap.size]? = some (.cells #[.int .i64 0, .string ⟨#[]⟩, .int .i64 0, .int .i64 0] 37 (0, 0)) ∧
 W.heap[w.heap.size + 1]? = some (.cells #[.int .i64 k0, .string ⟨#[]⟩, .int .i64 l, .int .i64 ((a : Int) - h + 1)] 37 (0, 0))
theorem NX.below {w0 w : World} {g : Nat} {s : ByteArray} {a l h : Nat} {k0 : Int} {W W1 : World} (H : NX w0 w g s a l h k0 W) (hb : Below W.heap.size W W1) : NX w0 w g s a l h k0 W1 := by
 obtain ⟨h1, h2, h3, h4, h5, h6, h7, h8⟩ := H
 exact ⟨h1.below hb, h2.trans (hb.mono h2.size), h3.trans (KeepBut.of_below hb g none) (.inl rfl), Nat.le_trans h4 hb.size, h5, h6, (hb.block _ (blk_lt h7)).trans h7, (hb.block _ (blk_lt h8)).trans h8⟩
theorem NX.drewN {w0 w : World} {g : Nat} {s : ByteArray} {a l h : Nat} {k0 : Int} {W : World} (H : NX w0 w g s a l h k0 W) (n : Nat) : NX w0 w g s a l h k0 (W.drewN n) := H.below (below_drewN' (Below.refl _ _) n)
theorem NX.new {w0 w : World} {g : Nat} {s : ByteArray} {a l h : Nat} (hI : IsS53 w0 w g s a l h) (hB : Below w0.heap.size w0 w) :
  NX w0 w g s a l h 0 ((w.alloc (.cells #[.int .i64 0, .string ⟨#[]⟩, .int .i64 0, .int .i64 0] 37)).alloc (.cells #[.int .i64 0, .string ⟨#[]⟩, .int .i64 l, .int .i64 ((a : Int) - h + 1)] 37)) := by
 refine ⟨(hI.alloc _).alloc _, (hB.alloc hB.size _).alloc (by have := hB.size; simp; omega) _, keep_alloc (keep_alloc (KeepBut.refl _ _ _) _) _, by simp; omega, IsS53.lt hI, hB.size, ?_, ?_⟩
 ·
  rw [Below.heap_alloc _ _ _ (by simp)]
  simpa using heap_alloc_new w _
 ·
  have := heap_alloc_new (w.alloc (.cells #[.int .i64 0, .string ⟨#[]⟩, .int .i64 0, .int .i64 0] 37)) (.cells #[.int .i64 0, .string ⟨#[]⟩, .int .i64 l, .int .i64 ((a : Int) - h + 1)] 37)
  simpa using this
def tokens_next (k : Nat) (t : ByteArray) : Option ((Int × ByteArray × Nat) ⊕ Nat) :=
 if 97 ≤ bt t 0 ∧ bt t 0 ≤ 122 then
  (if 33 ≤ rowN t then some (.inr 32) else (tokens_word.f (t.extract 0 (rowN t))).bind fun b => some (.inl (if b = true then 2 else 1, t.extract 0 (rowN t), rowN t)))
 else if 48 ≤ bt t 0 ∧ bt t 0 ≤ 57 then
  (if (numF t.data.toList).2.2 = true then some (.inl ((numF t.data.toList).2.1, t.extract 0 (numF t.data.toList).1, (numF t.data.toList).1)) else some (.inr (numF t.data.toList).1))
 else if bt t 0 = 34 then
  (tokens_quoted.f k (t.extract 1 t.size)).bind fun r => if 0 ≤ r.2.1 ∧ r.2.1 ≤ 140737488351232 then (if r.2.2 = true then some (.inl (5, r.1, 1 + r.2.1.toNat)) else some (.inr (1 + r.2.1.toNat))) else none
 else (tokens_mark.f k t).bind fun n => if n < 1 then (if -1 ≤ n then some (.inr (-n).toNat) else none) else (if n ≤ t.size then some (.inl (6, t.extract 0 n.toNat, n.toNat)) else none)
theorem takeWhile_len {α : Type} (p : α → Bool) (l : List α) : (l.takeWhile p).length ≤ l.length := (List.takeWhile_sublist _).length_le
theorem numF_le (L : List UInt8) : (numF L).1 ≤ L.length := by
 have h0 := dl_le L
 have h1 := dl_drop_le L (dl L + 1)
 have h2 := dl_drop_le L (dl L + (1 + dl (L.drop (dl L + 1))) + 1)
 have h3 := dl_drop_le L (dl L + (1 + dl (L.drop (dl L + 1))) + 1 + 1)
 unfold numF
 by_cases p0 : L[dl L]? = some 46
 ·
  have := at_lt p0
  rw [if_pos p0]
  split
  ·
   simp; omega
  ·
   by_cases p1 : L[dl L + (1 + dl (L.drop (dl L + 1)))]? = some 101
   ·
    have := at_lt p1
    rw [if_pos p1]
    by_cases p2 : L[dl L + (1 + dl (L.drop (dl L + 1))) + 1]? = some 45
    ·
     have := at_lt p2
     rw [if_pos p2]
     split <;> simp <;> omega
    ·
     rw [if_neg p2]
     split <;> simp <;> omega
   ·
    rw [if_neg p1]
    simp; omega
 ·
  rw [if_neg p0]
  exact h0
def NextPost (w0 w : World) (g : Nat) (s : ByteArray) (a l h : Nat) (R : (Int × ByteArray × Nat) ⊕ Nat) (e : Ending) (w' : World) : Prop :=
 match R with
 | .inl (kind, text, n) => e = .returned (.tuple #[.agg #[.int .i64 kind, .string text, .int .i64 l, .int .i64 ((a : Int) - h + 1)], .int .i64 (-1)]) ∧ IsS53 w0 w' g s ((a + n : Nat) : Int) l h ∧ Below w0.heap.size w0 w' ∧ KeepBut w w' g none
 | .inr b => (∃ k0 c1 : Int, e = .returned (.tuple #[.agg #[.int .i64 k0, .string ⟨#[]⟩, .int .i64 l, .int .i64 c1], .int .i64 ((a + b : Nat) : Int)])) ∧ IsS53 w0 w' g s a l h ∧ Below w0.heap.size w0 w' ∧ KeepBut w w' g none
set_option maxHeartbeats 16000000 in
set_option maxRecDepth 100000 in
theorem scanner_next (k : Nat) (g : Nat) (s : ByteArray) (a l h : Nat) (R) (w0 w : World) (hI : IsS53 w0 w g s a l h) (hB : Below w0.heap.size w0 w) (hs : s.size ≤ 140737488351232) (ha : a < s.size) (hl : l ≤ 281474976710656) (hh : h ≤ a) (hT : Lib.Utf8Tabs 0 1 w0) (hr : tokens_next k (s.extract a s.size) = some R) :
  Calls Tryd.prog 29 #[.pointer (some ⟨g, 0, none⟩)] w fun e w' => NextPost w0 w g s a l h R e w' := by
 have HI := Lib.hid hI
 have HB := Lib.hid hB
 have HR := Lib.hid hr
 have HN := Lib.hid (NX.new hI hB)
 have HT2 := Lib.hid (Utf8Tabs_below hT (hB))
 have hgl := IsS53.lt hI
 obtain ⟨HG0, _⟩ := hI
 have hc0 := cellS53_0 HG0
 have hc1 := cellS53_1 HG0
 have hc2 := cellS53_2 HG0
 have hc3 := cellS53_3 HG0
 clear HG0
 clear hB hr
 go_enter Tryd.func29, Tryd.ntmps29
 go_wp2
 go_region
 go_wp2
 go_region
 go_upto_region 4 with fail
 have hse := size_extract_end s a
 have hru : ∀ d : Nat × Nat, Lib.decodeGo (s.extract a s.size) = d → ((s[a]'ha).toNat < 128 ∧ d.1 = (s[a]'ha).toNat) ∨ (128 ≤ (s[a]'ha).toNat ∧ 128 ≤ d.1) := by
  intro d hd
  have hp : 0 < (s.extract a s.size).size := (by omega)
  obtain ⟨h2, he⟩ := extract_at s a 0 hp
  have hz : ¬ (s.extract a s.size).size = 0 := (by omega)
  unfold Lib.decodeGo at hd
  rw [if_neg hz] at hd
  rcases rune_at (s.extract a s.size) 0 hp with ⟨p1, p2⟩ | ⟨p1, p2, _⟩
  ·
   rw [p2] at hd; subst hd; rw [he] at p1; exact .inl ⟨p1, congrArg UInt8.toNat he⟩
  ·
   rw [hd] at p2; rw [he] at p1; exact .inr ⟨p1, p2⟩
 have HRU := Lib.hid hru
 clear hru hse
 go_cut [8] (fun s8 wx => ∃ ru : Nat, s8 = .int .i32 ru ∧ Hid (((s[a]'ha).toNat < 128 ∧ ru = (s[a]'ha).toNat) ∨ (128 ≤ (s[a]'ha).toNat ∧ 128 ≤ ru)) ∧ Hid (NX w0 w g s a l h 0 wx))
 case first =>
  have HTH := Lib.hid hT
  clear hT
  go_wp2_with (go_at_call 44; refine (Tryd.utf8_DecodeRuneInString _ _ (Utf8Tabs_below HTH.out (by exact (HN.out.drewN 2).2.1))).mono ?_; rintro e w1 ⟨rfl, hb1⟩)
  go_meet
  exact ⟨_, rfl, HRU.out _ rfl, (HN.out.drewN 2).below hb1⟩
 case rest =>
  clear hc0 hc1 hc2 hc3 HN HRU HT2 HI HB hT hgl
  obtain ⟨ru, rfl, HRU, NXV⟩ := hcut
  obtain ⟨hIX, hBX, hKX, hsX, hgl, hw0, HG1, HG2⟩ := NXV.out
  have HIX := Lib.hid hIX
  have HBX := Lib.hid hBX
  have HKX := Lib.hid hKX
  obtain ⟨HG0, hgg⟩ := HIX.out
  clear hIX hBX hKX
  have hc0 := cellS53_0 HG0
  have hc1 := cellS53_1 HG0
  have hf1 := blk_frozen HG0 1
  have hd0 := (blk_cell HG1 0).trans (b := some (Value.int .i64 0)) rfl
  have hd1 := (blk_cell HG1 1).trans (b := some (Value.string ⟨#[]⟩)) rfl
  have hd2 := (blk_cell HG1 2).trans (b := some (Value.int .i64 0)) rfl
  have hd3 := (blk_cell HG1 3).trans (b := some (Value.int .i64 0)) rfl
  have he0 := (blk_cell HG2 0).trans (b := some (Value.int .i64 0)) rfl
  have he1 := (blk_cell HG2 1).trans (b := some (Value.string ⟨#[]⟩)) rfl
  have he2 := (blk_cell HG2 2).trans (b := some (Value.int .i64 l)) rfl
  have he3 := (blk_cell HG2 3).trans (b := some (Value.int .i64 ((a : Int) - h + 1))) rfl
  have hdf0 := blk_frozen HG1 0
  have hdf1 := blk_frozen HG1 1
  have hdf2 := blk_frozen HG1 2
  have hdf3 := blk_frozen HG1 3
  have hef0 := blk_frozen HG2 0
  have hef1 := blk_frozen HG2 1
  have hgB : g ≠ w.heap.size := (by omega)
  have hgB1 : g ≠ w.heap.size + 1 := (by omega)
  clear HG0 HG1 HG2
  have hbt : bt (s.extract a s.size) 0 = ((s[a]'ha).toNat : Int) := by
   have hp : 0 < (s.extract a s.size).size := by have := size_extract_end s a; omega
   obtain ⟨h2, he⟩ := extract_at s a 0 hp
   unfold bt
   rw [dif_pos (by simpa using hp)]
   exact congrArg (fun c : UInt8 => (c.toNat : Int)) he
  have HR2 := HR.out
  unfold tokens_next at HR2
  rw [hbt] at HR2
  have hru := HRU.out
  by_cases hsm : 97 ≤ (((s[a]'ha).toNat : Nat) : Int) ∧ (((s[a]'ha).toNat : Nat) : Int) ≤ 122
  ·
   rw [if_pos hsm] at HR2
   have HC := Lib.hid (class_small (r := (ru : Int)) (by omega) (by omega))
   clear hsm hru hbt HR
   by_cases h33 : 33 ≤ rowN (s.extract a s.size)
   ·
    rw [if_pos h33] at HR2
    have HR3 := Lib.hid (Option.some.inj HR2)
    have HROW : Hid (tokens_row.f (s.extract a s.size) = some (32, true)) := by unfold tokens_row.f; rw [if_pos h33]; rfl
    clear HR2 h33
    go_wp2_with (first | (go_at_call 45; (with_reducible refine (tokens_class.calls _ 1 _ HC.out).mono ?_); rintro e w1 ⟨rfl, ⟨nd, rfl⟩⟩) | (go_at_call 46; (with_reducible refine (tokens_row.calls _ _ _ _ HROW.out).mono ?_); rintro e w2 ⟨rfl, hb2⟩; have NXV := Lib.hid ((NX.drewN NXV.out nd).below hb2); obtain ⟨hIX, hBX, hKX, hsX, hgl, hw0, HG1, HG2⟩ := NXV.out; have HIX := Lib.hid hIX; have HBX := Lib.hid hBX; have HKX := Lib.hid hKX; obtain ⟨HG0, hgg⟩ := HIX.out; clear hIX hBX hKX; have hc0 := cellS53_0 HG0; have hc1 := cellS53_1 HG0; have hf1 := blk_frozen HG0 1; have hd0 := (blk_cell HG1 0).trans (b := some (Value.int .i64 0)) rfl; have hd1 := (blk_cell HG1 1).trans (b := some (Value.string ⟨#[]⟩)) rfl; have hd2 := (blk_cell HG1 2).trans (b := some (Value.int .i64 0)) rfl; have hd3 := (blk_cell HG1 3).trans (b := some (Value.int .i64 0)) rfl; have he0 := (blk_cell HG2 0).trans (b := some (Value.int .i64 0)) rfl; have he1 := (blk_cell HG2 1).trans (b := some (Value.string ⟨#[]⟩)) rfl; have he2 := (blk_cell HG2 2).trans (b := some (Value.int .i64 l)) rfl; have he3 := (blk_cell HG2 3).trans (b := some (Value.int .i64 ((a : Int) - h + 1))) rfl; have hdf0 := blk_frozen HG1 0; have hdf1 := blk_frozen HG1 1; have hdf2 := blk_frozen HG1 2; have hdf3 := blk_frozen HG1 3; have hef0 := blk_frozen HG2 0; have hef1 := blk_frozen HG2 1; have hgB : g ≠ w.heap.size := (by omega); have hgB1 : g ≠ w.heap.size + 1 := (by omega); clear HG0 HG1 HG2))
    go_region
    go_wp2
    refine bodyPost_ret (v := .tuple #[.agg #[.int .i64 0, .string ⟨#[]⟩, .int .i64 l, .int .i64 ((a : Int) - h + 1)], .int .i64 ((a : Int) + 32)]) (by simp [results, Tryd.results29, go_sem, hd0, hd1, hd2, hd3, Ne.symm hgB]) rfl ?_
    rw [← HR3.out]
    exact ⟨⟨_, _, by first | rfl | rw [show (a : Int) + 1 + (m : Int) = ((a + (1 + m) : Nat) : Int) from by omega]⟩, by repeat (with_reducible first | exact HIX.out | (first | apply IsS53.drew | apply IsS53.drewN | refine IsS53.far ?_ hgB _ | refine IsS53.far ?_ hgB1 _ | refine IsS53.set_1 (f1 := (a : Int)) ?_ _)), by repeat (with_reducible first | exact HBX.out | (first | apply below_drew1 | apply below_drewN' | refine Below.setCell ?_ (p := ⟨w.heap.size, _, none⟩) hw0 _ | refine Below.setCell ?_ (p := ⟨w.heap.size + 1, _, none⟩) (Nat.le_succ_of_le hw0) _ | refine Below.setCell ?_ (p := ⟨g, _, none⟩) hgg _)), by repeat (with_reducible first | exact HKX.out | (first | apply keep_drew | apply keep_drewN | apply KeepBut.set_ | refine keep_far ?_ (p := ⟨w.heap.size, _, none⟩) (Nat.le_refl _) _ | refine keep_far ?_ (p := ⟨w.heap.size + 1, _, none⟩) (Nat.le_succ _) _))⟩
   ·
    rw [if_neg h33] at HR2
    have HROW : Hid (tokens_row.f (s.extract a s.size) = some ((rowN (s.extract a s.size) : Int), false)) := by unfold tokens_row.f; rw [if_neg h33]; rfl
    have hn : rowN (s.extract a s.size) ≤ s.size - a := by
     have := takeWhile_len rowB (s.extract a s.size).data.toList
     rw [len_toList, size_extract_end] at this
     exact this
    generalize hN : rowN (s.extract a s.size) = n at HR2 HROW hn
    clear hN h33
    obtain ⟨b, hw, hr3⟩ := Option.bind_eq_some_iff.mp HR2
    have HW := Lib.hid hw
    have HR3 := Lib.hid (Option.some.inj hr3)
    clear HR2 hw hr3
    cases b
    ·
     go_wp2_with (first | (go_at_call 45; (with_reducible refine (tokens_class.calls _ 1 _ HC.out).mono ?_); rintro e w1 ⟨rfl, ⟨nd, rfl⟩⟩) | (go_at_call 46; (with_reducible refine (tokens_row.calls _ _ _ _ HROW.out).mono ?_); rintro e w2 ⟨rfl, hb2⟩; have NXV := Lib.hid ((NX.drewN NXV.out nd).below hb2); obtain ⟨hIX, hBX, hKX, hsX, hgl, hw0, HG1, HG2⟩ := NXV.out; have HIX := Lib.hid hIX; have HBX := Lib.hid hBX; have HKX := Lib.hid hKX; obtain ⟨HG0, hgg⟩ := HIX.out; clear hIX hBX hKX; have hc0 := cellS53_0 HG0; have hc1 := cellS53_1 HG0; have hf1 := blk_frozen HG0 1; have hd0 := (blk_cell HG1 0).trans (b := some (Value.int .i64 0)) rfl; have hd1 := (blk_cell HG1 1).trans (b := some (Value.string ⟨#[]⟩)) rfl; have hd2 := (blk_cell HG1 2).trans (b := some (Value.int .i64 0)) rfl; have hd3 := (blk_cell HG1 3).trans (b := some (Value.int .i64 0)) rfl; have he0 := (blk_cell HG2 0).trans (b := some (Value.int .i64 0)) rfl; have he1 := (blk_cell HG2 1).trans (b := some (Value.string ⟨#[]⟩)) rfl; have he2 := (blk_cell HG2 2).trans (b := some (Value.int .i64 l)) rfl; have he3 := (blk_cell HG2 3).trans (b := some (Value.int .i64 ((a : Int) - h + 1))) rfl; have hdf0 := blk_frozen HG1 0; have hdf1 := blk_frozen HG1 1; have hdf2 := blk_frozen HG1 2; have hdf3 := blk_frozen HG1 3; have hef0 := blk_frozen HG2 0; have hef1 := blk_frozen HG2 1; have hgB : g ≠ w.heap.size := (by omega); have hgB1 : g ≠ w.heap.size + 1 := (by omega); clear HG0 HG1 HG2) | (go_at_call 47; (with_reducible refine (tokens_word.calls _ false _ HW.out).mono ?_); rintro e w3 ⟨rfl, ⟨nd3, rfl⟩⟩))
     refine bodyPost_ret (v := .tuple #[.agg #[.int .i64 1, .string ((s.extract a s.size).extract 0 n), .int .i64 l, .int .i64 ((a : Int) - h + 1)], .int .i64 (-1)]) (by simp [results, Tryd.results29, go_sem, hd0, hd1, hd2, hd3, Ne.symm hgB]) rfl ?_
     rw [← HR3.out]
     refine ⟨rfl, ?_, by repeat (with_reducible first | exact HBX.out | (first | apply below_drew1 | apply below_drewN' | refine Below.setCell ?_ (p := ⟨w.heap.size, _, none⟩) hw0 _ | refine Below.setCell ?_ (p := ⟨w.heap.size + 1, _, none⟩) (Nat.le_succ_of_le hw0) _ | refine Below.setCell ?_ (p := ⟨g, _, none⟩) hgg _)), by repeat (with_reducible first | exact HKX.out | (first | apply keep_drew | apply keep_drewN | apply KeepBut.set_ | refine keep_far ?_ (p := ⟨w.heap.size, _, none⟩) (Nat.le_refl _) _ | refine keep_far ?_ (p := ⟨w.heap.size + 1, _, none⟩) (Nat.le_succ _) _))⟩
     show IsS53 w0 _ g s ((a + n : Nat) : Int) l h
     rw [show ((a + n : Nat) : Int) = (a : Int) + (n : Int) from by omega]
     exact (by repeat (with_reducible first | exact HIX.out | (first | apply IsS53.drew | apply IsS53.drewN | refine IsS53.far ?_ hgB _ | refine IsS53.far ?_ hgB1 _ | refine IsS53.set_1 (f1 := (a : Int)) ?_ _)))
    ·
     go_wp2_with (first | (go_at_call 45; (with_reducible refine (tokens_class.calls _ 1 _ HC.out).mono ?_); rintro e w1 ⟨rfl, ⟨nd, rfl⟩⟩) | (go_at_call 46; (with_reducible refine (tokens_row.calls _ _ _ _ HROW.out).mono ?_); rintro e w2 ⟨rfl, hb2⟩; have NXV := Lib.hid ((NX.drewN NXV.out nd).below hb2); obtain ⟨hIX, hBX, hKX, hsX, hgl, hw0, HG1, HG2⟩ := NXV.out; have HIX := Lib.hid hIX; have HBX := Lib.hid hBX; have HKX := Lib.hid hKX; obtain ⟨HG0, hgg⟩ := HIX.out; clear hIX hBX hKX; have hc0 := cellS53_0 HG0; have hc1 := cellS53_1 HG0; have hf1 := blk_frozen HG0 1; have hd0 := (blk_cell HG1 0).trans (b := some (Value.int .i64 0)) rfl; have hd1 := (blk_cell HG1 1).trans (b := some (Value.string ⟨#[]⟩)) rfl; have hd2 := (blk_cell HG1 2).trans (b := some (Value.int .i64 0)) rfl; have hd3 := (blk_cell HG1 3).trans (b := some (Value.int .i64 0)) rfl; have he0 := (blk_cell HG2 0).trans (b := some (Value.int .i64 0)) rfl; have he1 := (blk_cell HG2 1).trans (b := some (Value.string ⟨#[]⟩)) rfl; have he2 := (blk_cell HG2 2).trans (b := some (Value.int .i64 l)) rfl; have he3 := (blk_cell HG2 3).trans (b := some (Value.int .i64 ((a : Int) - h + 1))) rfl; have hdf0 := blk_frozen HG1 0; have hdf1 := blk_frozen HG1 1; have hdf2 := blk_frozen HG1 2; have hdf3 := blk_frozen HG1 3; have hef0 := blk_frozen HG2 0; have hef1 := blk_frozen HG2 1; have hgB : g ≠ w.heap.size := (by omega); have hgB1 : g ≠ w.heap.size + 1 := (by omega); clear HG0 HG1 HG2) | (go_at_call 47; (with_reducible refine (tokens_word.calls _ true _ HW.out).mono ?_); rintro e w3 ⟨rfl, ⟨nd3, rfl⟩⟩))
     refine bodyPost_ret (v := .tuple #[.agg #[.int .i64 2, .string ((s.extract a s.size).extract 0 n), .int .i64 l, .int .i64 ((a : Int) - h + 1)], .int .i64 (-1)]) (by simp [results, Tryd.results29, go_sem, hd0, hd1, hd2, hd3, Ne.symm hgB]) rfl ?_
     rw [← HR3.out]
     refine ⟨rfl, ?_, by repeat (with_reducible first | exact HBX.out | (first | apply below_drew1 | apply below_drewN' | refine Below.setCell ?_ (p := ⟨w.heap.size, _, none⟩) hw0 _ | refine Below.setCell ?_ (p := ⟨w.heap.size + 1, _, none⟩) (Nat.le_succ_of_le hw0) _ | refine Below.setCell ?_ (p := ⟨g, _, none⟩) hgg _)), by repeat (with_reducible first | exact HKX.out | (first | apply keep_drew | apply keep_drewN | apply KeepBut.set_ | refine keep_far ?_ (p := ⟨w.heap.size, _, none⟩) (Nat.le_refl _) _ | refine keep_far ?_ (p := ⟨w.heap.size + 1, _, none⟩) (Nat.le_succ _) _))⟩
     show IsS53 w0 _ g s ((a + n : Nat) : Int) l h
     rw [show ((a + n : Nat) : Int) = (a : Int) + (n : Int) from by omega]
     exact (by repeat (with_reducible first | exact HIX.out | (first | apply IsS53.drew | apply IsS53.drewN | refine IsS53.far ?_ hgB _ | refine IsS53.far ?_ hgB1 _ | refine IsS53.set_1 (f1 := (a : Int)) ?_ _)))
  ·
   rw [if_neg hsm] at HR2
   by_cases hdg : 48 ≤ (((s[a]'ha).toNat : Nat) : Int) ∧ (((s[a]'ha).toNat : Nat) : Int) ≤ 57
   ·
    rw [if_pos hdg] at HR2
    have HC := Lib.hid (class_digit (r := (ru : Int)) (by omega) (by omega))
    clear hsm hdg hru hbt HR
    have hsz2 : (s.extract a s.size).size ≤ 140737488351232 := by have := size_extract_end s a; omega
    have hn : (numF (s.extract a s.size).data.toList).1 ≤ s.size - a := by
     have := numF_le (s.extract a s.size).data.toList
     rw [len_toList, size_extract_end] at this
     exact this
    have hnum : tokens_number.f (s.extract a s.size) = some (((numF (s.extract a s.size).data.toList).1 : Int), ((numF (s.extract a s.size).data.toList).2.1 : Int), (numF (s.extract a s.size).data.toList).2.2) := by
     unfold tokens_number.f
     rw [if_pos hsz2]
    generalize hNF : numF (s.extract a s.size).data.toList = nf at HR2 hn hnum
    obtain ⟨n, kd, ok⟩ := nf
    have HNUM := Lib.hid hnum
    clear hNF hnum hsz2
    cases ok
    ·
     have HR3 : Hid (.inr n = R) := Lib.hid (by simpa using HR2)
     clear HR2
     go_wp2_with (first | (go_at_call 45; (with_reducible refine (tokens_class.calls _ 2 _ HC.out).mono ?_); rintro e w1 ⟨rfl, ⟨nd, rfl⟩⟩) | (go_at_call 48; (with_reducible refine (tokens_number.calls _ _ _ _ _ HNUM.out).mono ?_); rintro e w2 ⟨rfl, hb2⟩; have NXV := Lib.hid ((NX.drewN NXV.out nd).below hb2); obtain ⟨hIX, hBX, hKX, hsX, hgl, hw0, HG1, HG2⟩ := NXV.out; have HIX := Lib.hid hIX; have HBX := Lib.hid hBX; have HKX := Lib.hid hKX; obtain ⟨HG0, hgg⟩ := HIX.out; clear hIX hBX hKX; have hc0 := cellS53_0 HG0; have hc1 := cellS53_1 HG0; have hf1 := blk_frozen HG0 1; have hd0 := (blk_cell HG1 0).trans (b := some (Value.int .i64 0)) rfl; have hd1 := (blk_cell HG1 1).trans (b := some (Value.string ⟨#[]⟩)) rfl; have hd2 := (blk_cell HG1 2).trans (b := some (Value.int .i64 0)) rfl; have hd3 := (blk_cell HG1 3).trans (b := some (Value.int .i64 0)) rfl; have he0 := (blk_cell HG2 0).trans (b := some (Value.int .i64 0)) rfl; have he1 := (blk_cell HG2 1).trans (b := some (Value.string ⟨#[]⟩)) rfl; have he2 := (blk_cell HG2 2).trans (b := some (Value.int .i64 l)) rfl; have he3 := (blk_cell HG2 3).trans (b := some (Value.int .i64 ((a : Int) - h + 1))) rfl; have hdf0 := blk_frozen HG1 0; have hdf1 := blk_frozen HG1 1; have hdf2 := blk_frozen HG1 2; have hdf3 := blk_frozen HG1 3; have hef0 := blk_frozen HG2 0; have hef1 := blk_frozen HG2 1; have hgB : g ≠ w.heap.size := (by omega); have hgB1 : g ≠ w.heap.size + 1 := (by omega); clear HG0 HG1 HG2))
     go_region
     go_wp2
     refine bodyPost_ret (v := .tuple #[.agg #[.int .i64 kd, .string ⟨#[]⟩, .int .i64 l, .int .i64 ((a : Int) - h + 1)], .int .i64 ((a : Int) + (n : Int))]) (by simp [results, Tryd.results29, go_sem, hd0, hd1, hd2, hd3, Ne.symm hgB]) rfl ?_
     rw [← HR3.out]
     exact ⟨⟨_, _, by first | rfl | rw [show (a : Int) + 1 + (m : Int) = ((a + (1 + m) : Nat) : Int) from by omega]⟩, by repeat (with_reducible first | exact HIX.out | (first | apply IsS53.drew | apply IsS53.drewN | refine IsS53.far ?_ hgB _ | refine IsS53.far ?_ hgB1 _ | refine IsS53.set_1 (f1 := (a : Int)) ?_ _)), by repeat (with_reducible first | exact HBX.out | (first | apply below_drew1 | apply below_drewN' | refine Below.setCell ?_ (p := ⟨w.heap.size, _, none⟩) hw0 _ | refine Below.setCell ?_ (p := ⟨w.heap.size + 1, _, none⟩) (Nat.le_succ_of_le hw0) _ | refine Below.setCell ?_ (p := ⟨g, _, none⟩) hgg _)), by repeat (with_reducible first | exact HKX.out | (first | apply keep_drew | apply keep_drewN | apply KeepBut.set_ | refine keep_far ?_ (p := ⟨w.heap.size, _, none⟩) (Nat.le_refl _) _ | refine keep_far ?_ (p := ⟨w.heap.size + 1, _, none⟩) (Nat.le_succ _) _))⟩
    ·
     have HR3 : Hid (.inl ((kd : Int), (s.extract a s.size).extract 0 n, n) = R) := Lib.hid (by simpa using HR2)
     clear HR2
     go_wp2_with (first | (go_at_call 45; (with_reducible refine (tokens_class.calls _ 2 _ HC.out).mono ?_); rintro e w1 ⟨rfl, ⟨nd, rfl⟩⟩) | (go_at_call 48; (with_reducible refine (tokens_number.calls _ _ _ _ _ HNUM.out).mono ?_); rintro e w2 ⟨rfl, hb2⟩; have NXV := Lib.hid ((NX.drewN NXV.out nd).below hb2); obtain ⟨hIX, hBX, hKX, hsX, hgl, hw0, HG1, HG2⟩ := NXV.out; have HIX := Lib.hid hIX; have HBX := Lib.hid hBX; have HKX := Lib.hid hKX; obtain ⟨HG0, hgg⟩ := HIX.out; clear hIX hBX hKX; have hc0 := cellS53_0 HG0; have hc1 := cellS53_1 HG0; have hf1 := blk_frozen HG0 1; have hd0 := (blk_cell HG1 0).trans (b := some (Value.int .i64 0)) rfl; have hd1 := (blk_cell HG1 1).trans (b := some (Value.string ⟨#[]⟩)) rfl; have hd2 := (blk_cell HG1 2).trans (b := some (Value.int .i64 0)) rfl; have hd3 := (blk_cell HG1 3).trans (b := some (Value.int .i64 0)) rfl; have he0 := (blk_cell HG2 0).trans (b := some (Value.int .i64 0)) rfl; have he1 := (blk_cell HG2 1).trans (b := some (Value.string ⟨#[]⟩)) rfl; have he2 := (blk_cell HG2 2).trans (b := some (Value.int .i64 l)) rfl; have he3 := (blk_cell HG2 3).trans (b := some (Value.int .i64 ((a : Int) - h + 1))) rfl; have hdf0 := blk_frozen HG1 0; have hdf1 := blk_frozen HG1 1; have hdf2 := blk_frozen HG1 2; have hdf3 := blk_frozen HG1 3; have hef0 := blk_frozen HG2 0; have hef1 := blk_frozen HG2 1; have hgB : g ≠ w.heap.size := (by omega); have hgB1 : g ≠ w.heap.size + 1 := (by omega); clear HG0 HG1 HG2))
     refine bodyPost_ret (v := .tuple #[.agg #[.int .i64 kd, .string ((s.extract a s.size).extract 0 n), .int .i64 l, .int .i64 ((a : Int) - h + 1)], .int .i64 (-1)]) (by simp [results, Tryd.results29, go_sem, hd0, hd1, hd2, hd3, Ne.symm hgB]) rfl ?_
     rw [← HR3.out]
     refine ⟨rfl, ?_, by repeat (with_reducible first | exact HBX.out | (first | apply below_drew1 | apply below_drewN' | refine Below.setCell ?_ (p := ⟨w.heap.size, _, none⟩) hw0 _ | refine Below.setCell ?_ (p := ⟨w.heap.size + 1, _, none⟩) (Nat.le_succ_of_le hw0) _ | refine Below.setCell ?_ (p := ⟨g, _, none⟩) hgg _)), by repeat (with_reducible first | exact HKX.out | (first | apply keep_drew | apply keep_drewN | apply KeepBut.set_ | refine keep_far ?_ (p := ⟨w.heap.size, _, none⟩) (Nat.le_refl _) _ | refine keep_far ?_ (p := ⟨w.heap.size + 1, _, none⟩) (Nat.le_succ _) _))⟩
     show IsS53 w0 _ g s ((a + n : Nat) : Int) l h
     rw [show ((a + n : Nat) : Int) = (a : Int) + (n : Int) from by omega]
     exact (by repeat (with_reducible first | exact HIX.out | (first | apply IsS53.drew | apply IsS53.drewN | refine IsS53.far ?_ hgB _ | refine IsS53.far ?_ hgB1 _ | refine IsS53.set_1 (f1 := (a : Int)) ?_ _)))
   ·
    rw [if_neg hdg] at HR2
    by_cases hqu : (((s[a]'ha).toNat : Nat) : Int) = 34
    ·
     rw [if_pos hqu] at HR2
     have HC := Lib.hid (class_quote (r := (ru : Int)) (by omega))
     clear hsm hdg hqu hru hbt HR
     have hse := size_extract_end s a
     rw [hse] at HR2
     obtain ⟨⟨text, sz, ok⟩, hq, hr3⟩ := Option.bind_eq_some_iff.mp HR2
     have HQ := Lib.hid hq
     clear HR2 hq hse
     by_cases hz : 0 ≤ sz ∧ sz ≤ 140737488351232
     ·
      obtain ⟨m, rfl⟩ := Int.eq_ofNat_of_zero_le hz.1
      have hm : m ≤ 140737488351232 := by have := hz.2; omega
      simp only [hz, and_self, if_true, Int.toNat_natCast] at hr3
      clear hz
      cases ok
      ·
       have HR3 : Hid (.inr (1 + m) = R) := Lib.hid (by simpa using hr3)
       clear hr3
       go_wp2_with (first | (go_at_call 45; (with_reducible refine (tokens_class.calls _ 3 _ HC.out).mono ?_); rintro e w1 ⟨rfl, ⟨nd, rfl⟩⟩) | (go_at_call 49; (with_reducible refine (tokens_quoted.calls _ _ _ _ _ _ HQ.out).mono ?_); rintro e w2 ⟨rfl, hb2⟩; have NXV := Lib.hid ((NX.drewN NXV.out nd).below hb2); obtain ⟨hIX, hBX, hKX, hsX, hgl, hw0, HG1, HG2⟩ := NXV.out; have HIX := Lib.hid hIX; have HBX := Lib.hid hBX; have HKX := Lib.hid hKX; obtain ⟨HG0, hgg⟩ := HIX.out; clear hIX hBX hKX; have hc0 := cellS53_0 HG0; have hc1 := cellS53_1 HG0; have hf1 := blk_frozen HG0 1; have hd0 := (blk_cell HG1 0).trans (b := some (Value.int .i64 0)) rfl; have hd1 := (blk_cell HG1 1).trans (b := some (Value.string ⟨#[]⟩)) rfl; have hd2 := (blk_cell HG1 2).trans (b := some (Value.int .i64 0)) rfl; have hd3 := (blk_cell HG1 3).trans (b := some (Value.int .i64 0)) rfl; have he0 := (blk_cell HG2 0).trans (b := some (Value.int .i64 0)) rfl; have he1 := (blk_cell HG2 1).trans (b := some (Value.string ⟨#[]⟩)) rfl; have he2 := (blk_cell HG2 2).trans (b := some (Value.int .i64 l)) rfl; have he3 := (blk_cell HG2 3).trans (b := some (Value.int .i64 ((a : Int) - h + 1))) rfl; have hdf0 := blk_frozen HG1 0; have hdf1 := blk_frozen HG1 1; have hdf2 := blk_frozen HG1 2; have hdf3 := blk_frozen HG1 3; have hef0 := blk_frozen HG2 0; have hef1 := blk_frozen HG2 1; have hgB : g ≠ w.heap.size := (by omega); have hgB1 : g ≠ w.heap.size + 1 := (by omega); clear HG0 HG1 HG2))
       go_region
       go_wp2
       refine bodyPost_ret (v := .tuple #[.agg #[.int .i64 0, .string ⟨#[]⟩, .int .i64 l, .int .i64 ((a : Int) - h + 1)], .int .i64 ((a : Int) + 1 + (m : Int))]) (by simp [results, Tryd.results29, go_sem, hd0, hd1, hd2, hd3, Ne.symm hgB]) rfl ?_
       rw [← HR3.out]
       exact ⟨⟨_, _, by first | rfl | rw [show (a : Int) + 1 + (m : Int) = ((a + (1 + m) : Nat) : Int) from by omega]⟩, by repeat (with_reducible first | exact HIX.out | (first | apply IsS53.drew | apply IsS53.drewN | refine IsS53.far ?_ hgB _ | refine IsS53.far ?_ hgB1 _ | refine IsS53.set_1 (f1 := (a : Int)) ?_ _)), by repeat (with_reducible first | exact HBX.out | (first | apply below_drew1 | apply below_drewN' | refine Below.setCell ?_ (p := ⟨w.heap.size, _, none⟩) hw0 _ | refine Below.setCell ?_ (p := ⟨w.heap.size + 1, _, none⟩) (Nat.le_succ_of_le hw0) _ | refine Below.setCell ?_ (p := ⟨g, _, none⟩) hgg _)), by repeat (with_reducible first | exact HKX.out | (first | apply keep_drew | apply keep_drewN | apply KeepBut.set_ | refine keep_far ?_ (p := ⟨w.heap.size, _, none⟩) (Nat.le_refl _) _ | refine keep_far ?_ (p := ⟨w.heap.size + 1, _, none⟩) (Nat.le_succ _) _))⟩
      ·
       have HR3 : Hid (.inl ((5 : Int), text, 1 + m) = R) := Lib.hid (by simpa using hr3)
       clear hr3
       go_wp2_with (first | (go_at_call 45; (with_reducible refine (tokens_class.calls _ 3 _ HC.out).mono ?_); rintro e w1 ⟨rfl, ⟨nd, rfl⟩⟩) | (go_at_call 49; (with_reducible refine (tokens_quoted.calls _ _ _ _ _ _ HQ.out).mono ?_); rintro e w2 ⟨rfl, hb2⟩; have NXV := Lib.hid ((NX.drewN NXV.out nd).below hb2); obtain ⟨hIX, hBX, hKX, hsX, hgl, hw0, HG1, HG2⟩ := NXV.out; have HIX := Lib.hid hIX; have HBX := Lib.hid hBX; have HKX := Lib.hid hKX; obtain ⟨HG0, hgg⟩ := HIX.out; clear hIX hBX hKX; have hc0 := cellS53_0 HG0; have hc1 := cellS53_1 HG0; have hf1 := blk_frozen HG0 1; have hd0 := (blk_cell HG1 0).trans (b := some (Value.int .i64 0)) rfl; have hd1 := (blk_cell HG1 1).trans (b := some (Value.string ⟨#[]⟩)) rfl; have hd2 := (blk_cell HG1 2).trans (b := some (Value.int .i64 0)) rfl; have hd3 := (blk_cell HG1 3).trans (b := some (Value.int .i64 0)) rfl; have he0 := (blk_cell HG2 0).trans (b := some (Value.int .i64 0)) rfl; have he1 := (blk_cell HG2 1).trans (b := some (Value.string ⟨#[]⟩)) rfl; have he2 := (blk_cell HG2 2).trans (b := some (Value.int .i64 l)) rfl; have he3 := (blk_cell HG2 3).trans (b := some (Value.int .i64 ((a : Int) - h + 1))) rfl; have hdf0 := blk_frozen HG1 0; have hdf1 := blk_frozen HG1 1; have hdf2 := blk_frozen HG1 2; have hdf3 := blk_frozen HG1 3; have hef0 := blk_frozen HG2 0; have hef1 := blk_frozen HG2 1; have hgB : g ≠ w.heap.size := (by omega); have hgB1 : g ≠ w.heap.size + 1 := (by omega); clear HG0 HG1 HG2))
       refine bodyPost_ret (v := .tuple #[.agg #[.int .i64 5, .string text, .int .i64 l, .int .i64 ((a : Int) - h + 1)], .int .i64 (-1)]) (by simp [results, Tryd.results29, go_sem, hd0, hd1, hd2, hd3, Ne.symm hgB]) rfl ?_
       rw [← HR3.out]
       refine ⟨rfl, ?_, by repeat (with_reducible first | exact HBX.out | (first | apply below_drew1 | apply below_drewN' | refine Below.setCell ?_ (p := ⟨w.heap.size, _, none⟩) hw0 _ | refine Below.setCell ?_ (p := ⟨w.heap.size + 1, _, none⟩) (Nat.le_succ_of_le hw0) _ | refine Below.setCell ?_ (p := ⟨g, _, none⟩) hgg _)), by repeat (with_reducible first | exact HKX.out | (first | apply keep_drew | apply keep_drewN | apply KeepBut.set_ | refine keep_far ?_ (p := ⟨w.heap.size, _, none⟩) (Nat.le_refl _) _ | refine keep_far ?_ (p := ⟨w.heap.size + 1, _, none⟩) (Nat.le_succ _) _))⟩
       show IsS53 w0 _ g s ((a + (1 + m) : Nat) : Int) l h
       rw [show ((a + (1 + m) : Nat) : Int) = (a : Int) + (1 + (m : Int)) from by omega]
       exact (by repeat (with_reducible first | exact HIX.out | (first | apply IsS53.drew | apply IsS53.drewN | refine IsS53.far ?_ hgB _ | refine IsS53.far ?_ hgB1 _ | refine IsS53.set_1 (f1 := (a : Int)) ?_ _)))
     ·
      exfalso
      simp only [hz, if_false] at hr3
      cases hr3
    ·
     rw [if_neg hqu] at HR2
     have HC := Lib.hid (class_other (r := (ru : Int)) (by omega) (by omega) (by omega))
     clear hsm hdg hqu hru hbt HR
     obtain ⟨n, hm, hr3⟩ := Option.bind_eq_some_iff.mp HR2
     have HM := Lib.hid hm
     clear HR2 hm
     by_cases h1 : n < 1
     ·
      rw [if_pos h1] at hr3
      by_cases h2 : -1 ≤ n
      ·
       rw [if_pos h2] at hr3
       have HR3 := Lib.hid (Option.some.inj hr3)
       clear hr3
       rcases (show n = 0 ∨ n = -1 by omega) with rfl | rfl
       ·
        clear h1 h2
        go_wp2_with (first | (go_at_call 45; (with_reducible refine (tokens_class.calls _ 0 _ HC.out).mono ?_); rintro e w1 ⟨rfl, ⟨nd, rfl⟩⟩) | (go_at_call 50; (with_reducible refine (tokens_mark.calls _ _ _ _ HM.out).mono ?_); rintro e w2 ⟨rfl, ⟨nd2, rfl⟩⟩))
        go_region
        go_wp2
        refine bodyPost_ret (v := .tuple #[.agg #[.int .i64 0, .string ⟨#[]⟩, .int .i64 l, .int .i64 ((a : Int) - h + 1)], .int .i64 (a : Int)]) (by simp [results, Tryd.results29, go_sem, hd0, hd1, hd2, hd3, Ne.symm hgB]) rfl ?_
        rw [← HR3.out]
        exact ⟨⟨_, _, by first | rfl | rw [show (a : Int) + 1 + (m : Int) = ((a + (1 + m) : Nat) : Int) from by omega]⟩, by repeat (with_reducible first | exact HIX.out | (first | apply IsS53.drew | apply IsS53.drewN | refine IsS53.far ?_ hgB _ | refine IsS53.far ?_ hgB1 _ | refine IsS53.set_1 (f1 := (a : Int)) ?_ _)), by repeat (with_reducible first | exact HBX.out | (first | apply below_drew1 | apply below_drewN' | refine Below.setCell ?_ (p := ⟨w.heap.size, _, none⟩) hw0 _ | refine Below.setCell ?_ (p := ⟨w.heap.size + 1, _, none⟩) (Nat.le_succ_of_le hw0) _ | refine Below.setCell ?_ (p := ⟨g, _, none⟩) hgg _)), by repeat (with_reducible first | exact HKX.out | (first | apply keep_drew | apply keep_drewN | apply KeepBut.set_ | refine keep_far ?_ (p := ⟨w.heap.size, _, none⟩) (Nat.le_refl _) _ | refine keep_far ?_ (p := ⟨w.heap.size + 1, _, none⟩) (Nat.le_succ _) _))⟩
       ·
        clear h1 h2
        go_wp2_with (first | (go_at_call 45; (with_reducible refine (tokens_class.calls _ 0 _ HC.out).mono ?_); rintro e w1 ⟨rfl, ⟨nd, rfl⟩⟩) | (go_at_call 50; (with_reducible refine (tokens_mark.calls _ _ _ _ HM.out).mono ?_); rintro e w2 ⟨rfl, ⟨nd2, rfl⟩⟩))
        go_region
        go_wp2
        refine bodyPost_ret (v := .tuple #[.agg #[.int .i64 0, .string ⟨#[]⟩, .int .i64 l, .int .i64 ((a : Int) - h + 1)], .int .i64 ((a : Int) + 1)]) (by simp [results, Tryd.results29, go_sem, hd0, hd1, hd2, hd3, Ne.symm hgB]) rfl ?_
        rw [← HR3.out]
        exact ⟨⟨_, _, by first | rfl | rw [show (a : Int) + 1 + (m : Int) = ((a + (1 + m) : Nat) : Int) from by omega]⟩, by repeat (with_reducible first | exact HIX.out | (first | apply IsS53.drew | apply IsS53.drewN | refine IsS53.far ?_ hgB _ | refine IsS53.far ?_ hgB1 _ | refine IsS53.set_1 (f1 := (a : Int)) ?_ _)), by repeat (with_reducible first | exact HBX.out | (first | apply below_drew1 | apply below_drewN' | refine Below.setCell ?_ (p := ⟨w.heap.size, _, none⟩) hw0 _ | refine Below.setCell ?_ (p := ⟨w.heap.size + 1, _, none⟩) (Nat.le_succ_of_le hw0) _ | refine Below.setCell ?_ (p := ⟨g, _, none⟩) hgg _)), by repeat (with_reducible first | exact HKX.out | (first | apply keep_drew | apply keep_drewN | apply KeepBut.set_ | refine keep_far ?_ (p := ⟨w.heap.size, _, none⟩) (Nat.le_refl _) _ | refine keep_far ?_ (p := ⟨w.heap.size + 1, _, none⟩) (Nat.le_succ _) _))⟩
      ·
       rw [if_neg h2] at hr3
       cases hr3
     ·
      rw [if_neg h1] at hr3
      by_cases h2 : n ≤ ((s.extract a s.size).size : Int)
      ·
       rw [if_pos h2] at hr3
       obtain ⟨m, rfl⟩ := Int.eq_ofNat_of_zero_le (show 0 ≤ n by omega)
       have hn : m ≤ s.size - a := by rw [size_extract_end] at h2; omega
       have h1' : ¬ ((m : Int) < 1) := h1
       have h3 : 1 ≤ (m : Int) := by omega
       have HR3 : Hid (.inl ((6 : Int), (s.extract a s.size).extract 0 m, m) = R) := Lib.hid (by simpa using hr3)
       clear hr3 h2 h1
       go_wp2_with (first | (go_at_call 45; (with_reducible refine (tokens_class.calls _ 0 _ HC.out).mono ?_); rintro e w1 ⟨rfl, ⟨nd, rfl⟩⟩) | (go_at_call 50; (with_reducible refine (tokens_mark.calls _ _ _ _ HM.out).mono ?_); rintro e w2 ⟨rfl, ⟨nd2, rfl⟩⟩))
       refine bodyPost_ret (v := .tuple #[.agg #[.int .i64 6, .string ((s.extract a s.size).extract 0 m), .int .i64 l, .int .i64 ((a : Int) - h + 1)], .int .i64 (-1)]) (by simp [results, Tryd.results29, go_sem, hd0, hd1, hd2, hd3, Ne.symm hgB]) rfl ?_
       rw [← HR3.out]
       refine ⟨rfl, ?_, by repeat (with_reducible first | exact HBX.out | (first | apply below_drew1 | apply below_drewN' | refine Below.setCell ?_ (p := ⟨w.heap.size, _, none⟩) hw0 _ | refine Below.setCell ?_ (p := ⟨w.heap.size + 1, _, none⟩) (Nat.le_succ_of_le hw0) _ | refine Below.setCell ?_ (p := ⟨g, _, none⟩) hgg _)), by repeat (with_reducible first | exact HKX.out | (first | apply keep_drew | apply keep_drewN | apply KeepBut.set_ | refine keep_far ?_ (p := ⟨w.heap.size, _, none⟩) (Nat.le_refl _) _ | refine keep_far ?_ (p := ⟨w.heap.size + 1, _, none⟩) (Nat.le_succ _) _))⟩
       show IsS53 w0 _ g s ((a + m : Nat) : Int) l h
       rw [show ((a + m : Nat) : Int) = (a : Int) + (m : Int) from by omega]
       exact (by repeat (with_reducible first | exact HIX.out | (first | apply IsS53.drew | apply IsS53.drewN | refine IsS53.far ?_ hgB _ | refine IsS53.far ?_ hgB1 _ | refine IsS53.set_1 (f1 := (a : Int)) ?_ _)))
      ·
       rw [if_neg h2] at hr3
       cases hr3
set_option maxHeartbeats 8000000 in
set_option maxRecDepth 100000 in
theorem scanner_spot (g : Nat) (s : ByteArray) (a l h : Nat) (er : Int) (at_ : Nat) (w0 w : World) (hI : IsS53 w0 w g s a l h) (hat : at_ ≤ 281474976710656) (hh : h ≤ at_) :
  Calls Tryd.prog 30 #[.pointer (some ⟨g, 0, none⟩), .int .i64 er, .int .i64 at_] w fun e w' => e = .returned (.agg #[.int .i64 er, .int .i64 l, .int .i64 ((at_ : Int) - h + 1)]) ∧ Below w.heap.size w w' := by
 have hlt := IsS53.lt hI
 obtain ⟨HG0, _⟩ := hI
 have hc0 := cellS53_0 HG0
 have hc1 := cellS53_1 HG0
 have hc2 := cellS53_2 HG0
 have hc3 := cellS53_3 HG0
 clear HG0
 go_enter Tryd.func30, Tryd.ntmps30
 go_wp2
 go_region
 go_wp2
 exact bodyPost_ret (v := .agg #[.int .i64 er, .int .i64 l, .int .i64 ((at_ : Int) - h + 1)]) (by simp [results, Tryd.results30, go_sem]) rfl ⟨rfl, ((Below.refl _ _).alloc (Nat.le_refl _) _).drew⟩
theorem blk_bounds : ∀ (L : List UInt8) (rem : Bool) (a l h : Nat), h ≤ a → a ≤ (blk rem L a l h).1 ∧ (blk rem L a l h).1 ≤ a + L.length ∧ (blk rem L a l h).2.1 + (a + L.length) ≤ l + L.length + (blk rem L a l h).1 ∧ (blk rem L a l h).2.2 ≤ (blk rem L a l h).1
 | [], _, a, l, h, hh => by simp [blk, hh]
 | c :: t, rem, a, l, h, hh => by
  unfold blk
  have hlen : (c :: t).length = t.length + 1 := rfl
  rw [hlen]
  split
  ·
   have := blk_bounds t false (a + 1) (l + 1) (a + 1) (Nat.le_refl _); omega
  ·
   split
   ·
    have := blk_bounds t true (a + 1) l h (by omega); omega
   ·
    split
    ·
     have := blk_bounds t false (a + 1) l h (by omega); omega
    ·
     split
     ·
      have := blk_bounds t true (a + 1) l h (by omega); omega
     ·
      simp only; omega
def scanL (k : Nat) (s : ByteArray) : Nat → Nat → Nat → Nat → List S37 → Option (List S37 × Int × Int × Int)
 | 0, _, _, _, _ => none
 | f + 1, a, l, h, out =>
  if (blk false (s.data.toList.drop a) a l h).1 = s.size then
   some (out ++ [⟨7, ⟨#[]⟩, ((blk false (s.data.toList.drop a) a l h).2.1 : Int), (((blk false (s.data.toList.drop a) a l h).1 : Nat) : Int) - ((blk false (s.data.toList.drop a) a l h).2.2 : Nat) + 1⟩], 0, 0, 0)
  else (tokens_next k (s.extract (blk false (s.data.toList.drop a) a l h).1 s.size)).bind fun r => match r with
   | .inr b => if (blk false (s.data.toList.drop a) a l h).1 + b ≤ s.size then some ([], 50, ((blk false (s.data.toList.drop a) a l h).2.1 : Int), (((blk false (s.data.toList.drop a) a l h).1 + b : Nat) : Int) - ((blk false (s.data.toList.drop a) a l h).2.2 : Nat) + 1) else none
   | .inl t => if (blk false (s.data.toList.drop a) a l h).1 + t.2.2 ≤ s.size then
     scanL k s f ((blk false (s.data.toList.drop a) a l h).1 + t.2.2) (blk false (s.data.toList.drop a) a l h).2.1 (blk false (s.data.toList.drop a) a l h).2.2
      (out ++ [⟨t.1, t.2.1, ((blk false (s.data.toList.drop a) a l h).2.1 : Int), (((blk false (s.data.toList.drop a) a l h).1 : Nat) : Int) - ((blk false (s.data.toList.drop a) a l h).2.2 : Nat) + 1⟩]) else none
def tokens_Scan.f (k : Nat) (a0 : ByteArray) : Option (List S37 × Int × Int × Int) := if a0.size > 65536 then some ([], 3, 0, 0) else scanL k a0 (a0.size + 1) 0 1 0 []
theorem tokens_next_mono (k : Nat) (t : ByteArray) : LeO (tokens_next k t) (tokens_next (k + 1) t) := by
 unfold tokens_next
 exact LeO.ite (LeO.refl _) (LeO.ite (LeO.refl _) (LeO.ite (LeO.bind (tokens_quoted.mono _ _) (fun _ => LeO.refl _)) (LeO.bind (tokens_mark.mono _ _) (fun _ => LeO.refl _))))
theorem scanL_mono (k : Nat) (s : ByteArray) : ∀ (f a l h : Nat) (out : List S37), LeO (scanL k s f a l h out) (scanL (k + 1) s f a l h out)
 | 0, _, _, _, _ => LeO.refl _
 | f + 1, a, l, h, out => by
  unfold scanL
  refine LeO.ite (LeO.refl _) (LeO.bind (tokens_next_mono _ _) (fun r => ?_))
  cases r with
  | inr b => exact LeO.refl _
  | inl t => exact LeO.ite (scanL_mono k s f _ _ _ _) (LeO.refl _)
theorem tokens_Scan.mono : ∀ a0 k, LeO (tokens_Scan.f k a0) (tokens_Scan.f (k + 1) a0) := by
 intro a0 k
 unfold tokens_Scan.f
 exact LeO.ite (LeO.refl _) (scanL_mono k _ _ _ _ _ _)
theorem wrap_col {a h : Nat} (ha : a ≤ 281474976710656) (hh : h ≤ a) : IntKind.i64.wrap (IntKind.i64.wrap ((a : Int) - h) + 1) = (a : Int) - h + 1 := by
 rw [IntKind.wrap_i64, IntKind.wrap_i64]
 omega
theorem alloc_drew (w : World) (o : Obj) : (w.alloc o).drew = w.drew.alloc o := rfl
set_option maxHeartbeats 8000000 in
set_option maxRecDepth 100000 in
theorem tokens_Scan.calls (k : Nat) (a0 : ByteArray) (r1 : List S37) (r2 : Int) (r3 : Int) (r4 : Int) (w : World) (h : tokens_Scan.f k a0 = some (r1, r2, r3, r4)) (hT : VT w) :
  Calls Tryd.prog 10 #[.string a0] w fun e w' => ∃ v0_ : Value, e = .returned (.tuple #[v0_, .agg #[.int .i64 r2, .int .i64 r3, .int .i64 r4]]) ∧ Kd.R k37 37 w' w.heap.size (fun _ => True) v0_ r1 ∧ Below w.heap.size w w' := by
 have HTT := Lib.hid hT
 clear hT
 by_cases hbig : a0.size > 65536
 ·
  unfold tokens_Scan.f at h
  rw [if_pos hbig] at h
  simp only [Option.some.injEq, Prod.mk.injEq] at h
  have HR := Lib.hid h
  clear h
  have hb0 : decide ((65536 : Int) < (a0.size : Int)) = true := by simp; omega
  go_enter Tryd.func10, Tryd.ntmps10
  go_wp2
  refine bodyPost_ret (v := .tuple #[.slice none 0 0, .agg #[.int .i64 3, .int .i64 0, .int .i64 0]]) (by simp [results, Tryd.results10, go_sem]) rfl ?_
  rw [← HR.out.1, ← HR.out.2.1, ← HR.out.2.2.1, ← HR.out.2.2.2]
  exact ⟨_, rfl, Kd.R_nil _ _ _ _ _, (Below.refl _ _).alloc (Nat.le_refl _) _⟩
 ·
  unfold tokens_Scan.f at h
  rw [if_neg hbig] at h
  have hsz : a0.size ≤ 65536 := by omega
  have HR := Lib.hid h
  clear h hbig
  have hb0 : decide ((65536 : Int) < (a0.size : Int)) = false := by simp; omega
  go_enter Tryd.func10, Tryd.ntmps10
  go_wp2
  go_loopg [5] (a0.size + 1) (fun gh s5 wr => ∃ (a l h : Nat) (out : List S37), a ≤ a0.size ∧ l ≤ 1 + a ∧ h ≤ a ∧ out.length + gh ≤ a0.size + 1 ∧ Hid (scanL k a0 gh a l h out = some (r1, r2, r3, r4)) ∧ Hid (IsS53 w wr (w.heap.size + 1) a0 a l h) ∧ Hid (Below w.heap.size w wr) ∧ Hid (wr.heap[w.heap.size]? = some (.cells #[.int .i64 0, .int .i64 0, .int .i64 0] 25 (0, 0))) ∧ Hid (Kd.R k37 37 wr w.heap.size (fun k_ => k_ ≠ w.heap.size ∧ k_ ≠ w.heap.size + 1) s5 out))
  case atStart =>
   refine ⟨0, 1, 0, [], Nat.zero_le _, by omega, Nat.le_refl _, by simp, HR, ⟨by simpa using heap_alloc_new (w.alloc (.cells #[.int .i64 0, .int .i64 0, .int .i64 0] 25)) (.cells #[.string a0, .int .i64 0, .int .i64 1, .int .i64 0] 53), by omega⟩, ((Below.refl _ _).alloc (Nat.le_refl _) _).alloc (by simp) _, ?_, Kd.R_nil _ _ _ _ _⟩
   show ((w.alloc (.cells #[.int .i64 0, .int .i64 0, .int .i64 0] 25)).alloc (.cells #[.string a0, .int .i64 0, .int .i64 1, .int .i64 0] 53)).heap[w.heap.size]? = _
   rw [Below.heap_alloc _ _ _ (by simp)]
   simpa using heap_alloc_new w (.cells #[.int .i64 0, .int .i64 0, .int .i64 0] 25)
  case round =>
   obtain ⟨a, l, h, out, ha, hl, hh, hout, HR, HI, HB, HC, HO⟩ := hrel
   cases gk with
   | zero => exact absurd HR.out (by simp [scanL])
   | succ f =>
    have hbb := blk_bounds (a0.data.toList.drop a) false a l h hh
    rw [List.length_drop, len_toList] at hbb
    have hr := HR.out
    unfold scanL at hr
    have cB : ∀ W : World, W = wr → Calls Tryd.prog 28 #[.pointer (some ⟨w.heap.size + 1, 0, none⟩)] W fun e w' => e = .returned (.tuple #[]) ∧ IsS53 w w' (w.heap.size + 1) a0 (blk false (a0.data.toList.drop a) a l h).1 (blk false (a0.data.toList.drop a) a l h).2.1 (blk false (a0.data.toList.drop a) a l h).2.2 ∧ Below w.heap.size w w' ∧ KeepBut W w' (w.heap.size + 1) none :=
     fun W e => by subst e; exact scanner_blanks (w.heap.size + 1) a0 a l h w W HI.out HB.out (by omega) ha (by omega) (by omega)
    generalize blk false (a0.data.toList.drop a) a l h = b at hr hbb cB
    obtain ⟨a1, l1, h1⟩ := b
    simp only at hr hbb cB
    have CB := Lib.hid (cB wr rfl)
    have HR2 := Lib.hid hr
    have hG := IsS53.lt HI.out
    have hwz := HB.out.size
    clear hr cB HR HI HB
    by_cases he : a1 = a0.size
    ·
     have hr := HR2.out
     rw [if_pos he] at hr
     simp only [Option.some.injEq, Prod.mk.injEq] at hr
     have HR3 := Lib.hid hr
     have hq : ((a1 : Int) == (a0.size : Int)) = true := by rw [he]; simp
     have HE := Lib.hid he
     clear hr he HR2
     go_wp2_with (go_at_call 28; (with_reducible refine (CB.out).mono ?_); rintro e w1 ⟨rfl, hI1, hB1, hK1⟩; have HI1 := Lib.hid hI1; have HB1 := Lib.hid hB1; have HC1 := Lib.hid ((hK1.2 w.heap.size (by omega) (by omega) (by simp)).trans HC.out); have HO1 := Lib.hid (Kd.R_keep HO.out hK1 (fun _ hk => hk.2)); obtain ⟨HG0, _⟩ := hI1; have hc0 := cellS53_0 HG0; have hc1 := cellS53_1 HG0; have hc2 := cellS53_2 HG0; have hc3 := cellS53_3 HG0; clear HG0 hB1 hK1)
     have hz1 := IsS53.lt HI1.out
     go_region_law (rw [alloc_drew]; (refine Kd.R_append_step k37 (w0 := w) w.heap.size (by rfl) (.tmp 24) (.tmp 40) 22 37 (.agg #[(.int .i64 0), (.string ⟨#[]⟩), (.int .i64 0), (.int .i64 0)]) 40 (by rfl) Tryd.underlying22 info37 rfl (by decide) (by omega) u5 out (⟨7, ⟨#[]⟩, l1, (IntKind.i64.wrap (IntKind.i64.wrap ((a1 : Int) - h1) + 1))⟩ : S37) [.int .i64 7, .string ⟨#[]⟩, .int .i64 l1, .int .i64 (IntKind.i64.wrap (IntKind.i64.wrap ((a1 : Int) - h1) + 1))] (fun k_ => k_ ≠ w.heap.size ∧ k_ ≠ w.heap.size + 1) (fun _ => False) (by rfl) (by rfl) ?aP (fun _ hk => hk.elim) ?aF ?aO ?aB ?aS ?aL ?_; (case aP => exact k37_mkM _ _ _ _); (case aF => exact fun k_ hk => ⟨by simp at hk; omega, by simp at hk; omega⟩); (case aO => exact (rxq HO1.out)); (case aB => exact (by repeat (first | (with_reducible first | exact HB1.out | apply below_alloc | apply pw_below_drewN | apply below_drew1) | exact HB1.out))); (case aS => (simp; omega)); (case aL => omega); intro v3 w3 ho3 hb3 hg3 hat3; have HO3 := Lib.hid ho3; have HB3 := Lib.hid hb3; have HC3 := Lib.hid ((hg3.block w.heap.size (by first | omega | (show w.heap.size < w1.heap.size; omega)) (fun e => (HO1.out.1 _ e.symm).1 rfl)).trans HC1.out); have gc0 := (blk_cell HC3.out 0).trans (b := some (Value.int .i64 0)) rfl; have gc1 := (blk_cell HC3.out 1).trans (b := some (Value.int .i64 0)) rfl; have gc2 := (blk_cell HC3.out 2).trans (b := some (Value.int .i64 0)) rfl; have gf0 := blk_frozen HC3.out 0; have gf1 := blk_frozen HC3.out 1; have gf2 := blk_frozen HC3.out 2; clear ho3 hb3 hg3 hat3))
     all_goals
      go_wp2
      refine bodyPost_ret (v := .tuple #[v3, .agg #[.int .i64 0, .int .i64 0, .int .i64 0]]) (by simp [results, Tryd.results10, go_sem, gc0, gc1, gc2]) rfl ?_
      rw [← HR3.out.1, ← HR3.out.2.1, ← HR3.out.2.2.1, ← HR3.out.2.2.2, ← wrap_col (a := a1) (h := h1) (by omega) (by omega)]
      exact ⟨v3, rfl, Kd.R_mono (Kd.R_far (p := ⟨w.heap.size, 2, none⟩) (Kd.R_far (p := ⟨w.heap.size, 1, none⟩) (Kd.R_far (p := ⟨w.heap.size, 0, none⟩) HO3.out (fun _ hk => hk.1) _) (fun _ hk => hk.1) _) (fun _ hk => hk.1) _) (fun _ _ => trivial), ((HB3.out.setCell (Nat.le_refl _) _).setCell (Nat.le_refl _) _).setCell (Nat.le_refl _) _⟩
    ·
     have hr := HR2.out
     rw [if_neg he] at hr
     have hq : ((a1 : Int) == (a0.size : Int)) = false := by simp; omega
     have hlt : a1 < a0.size := by omega
     obtain ⟨R, hn, hr3⟩ := Option.bind_eq_some_iff.mp hr
     have HN := Lib.hid hn
     clear hr he HR2 hn
     cases R with
     | inr b =>
      simp only at hr3
      by_cases hb1 : a1 + b ≤ a0.size
      case neg => rw [if_neg hb1] at hr3; exact absurd hr3 (by simp)
      rw [if_pos hb1] at hr3
      have hr4 := hr3
      simp only [Option.some.injEq, Prod.mk.injEq] at hr4
      have HR3 := Lib.hid hr4
      clear hr3 hr4
      have cS : ∀ W : World, IsS53 w W (w.heap.size + 1) a0 a1 l1 h1 → Calls Tryd.prog 30 #[.pointer (some ⟨w.heap.size + 1, 0, none⟩), .int .i64 50, .int .i64 ((a1 : Int) + (b : Int))] W fun e w' => e = .returned (.agg #[.int .i64 50, .int .i64 l1, .int .i64 ((a1 : Int) + (b : Int) - h1 + 1)]) ∧ Below W.heap.size W w' := by
       intro W hI
       have := scanner_spot (w.heap.size + 1) a0 a1 l1 h1 50 (a1 + b) w W hI (by omega) (by omega)
       rw [Int.natCast_add] at this
       exact this
      have hneg : decide (((a1 + b : Nat) : Int) ≥ 0) = true := by simp; omega
      go_wp2_with (first | (go_at_call 28; (with_reducible refine (CB.out).mono ?_); rintro e w1 ⟨rfl, hI1, hB1, hK1⟩; have HI1 := Lib.hid hI1; have HB1 := Lib.hid hB1; have HC1 := Lib.hid ((hK1.2 w.heap.size (by omega) (by omega) (by simp)).trans HC.out); obtain ⟨HG0, _⟩ := hI1; have hc0 := cellS53_0 HG0; have hc1 := cellS53_1 HG0; have hc2 := cellS53_2 HG0; have hc3 := cellS53_3 HG0; have HK1 := Lib.hid hK1; clear HG0 hB1 hK1) | (go_at_call 29; (refine (scanner_next k (w.heap.size + 1) a0 a1 l1 h1 _ w _ HI1.out HB1.out (by omega) (by omega) (by omega) (by omega) HTT.out HN.out).mono ?_); rintro e w2 ⟨⟨k0, c1, rfl⟩, hI2, hB2, hK2⟩; have HI2 := Lib.hid hI2; have HB2 := Lib.hid hB2; have HC2 := Lib.hid ((hK2.2 w.heap.size (by have := IsS53.lt HI1.out; omega) (by omega) (by simp)).trans HC1.out)) | (go_at_call 30; (with_reducible refine (cS _ (HI2.out.alloc _)).mono ?_); rintro e w3 ⟨rfl, hB3⟩; have HC3 := Lib.hid ((hB3.block w.heap.size (by have := IsS53.lt HI2.out; simp; omega)).trans ((Below.heap_alloc _ _ _ (by have := IsS53.lt HI2.out; omega)).trans HC2.out)); have gc0 := (blk_cell HC3.out 0).trans (b := some (Value.int .i64 0)) rfl; have gc1 := (blk_cell HC3.out 1).trans (b := some (Value.int .i64 0)) rfl; have gc2 := (blk_cell HC3.out 2).trans (b := some (Value.int .i64 0)) rfl; have gf0 := blk_frozen HC3.out 0; have gf1 := blk_frozen HC3.out 1; have gf2 := blk_frozen HC3.out 2; have HB3 := Lib.hid ((HB2.out.alloc HB2.out.size _).trans (hB3.mono (by have := HB2.out.size; simp; omega))); clear hB3))
      refine bodyPost_ret (v := .tuple #[.slice none 0 0, .agg #[.int .i64 50, .int .i64 l1, .int .i64 ((a1 : Int) + (b : Int) - h1 + 1)]]) (by simp [results, Tryd.results10, go_sem, gc0, gc1, gc2]) rfl ?_
      rw [← HR3.out.1, ← HR3.out.2.1, ← HR3.out.2.2.1, ← HR3.out.2.2.2, Int.natCast_add]
      exact ⟨_, rfl, Kd.R_nil _ _ _ _ _, ((HB3.out.setCell (Nat.le_refl _) _).setCell (Nat.le_refl _) _).setCell (Nat.le_refl _) _⟩
     | inl t =>
      obtain ⟨kd, tx, n⟩ := t
      simp only at hr3
      by_cases hb1 : a1 + n ≤ a0.size
      case neg => rw [if_neg hb1] at hr3; exact absurd hr3 (by simp)
      rw [if_pos hb1] at hr3
      have HR3 := Lib.hid hr3
      clear hr3
      go_wp2_with (first | (go_at_call 28; (with_reducible refine (CB.out).mono ?_); rintro e w1 ⟨rfl, hI1, hB1, hK1⟩; have HI1 := Lib.hid hI1; have HB1 := Lib.hid hB1; have HC1 := Lib.hid ((hK1.2 w.heap.size (by omega) (by omega) (by simp)).trans HC.out); obtain ⟨HG0, _⟩ := hI1; have hc0 := cellS53_0 HG0; have hc1 := cellS53_1 HG0; have hc2 := cellS53_2 HG0; have hc3 := cellS53_3 HG0; have HK1 := Lib.hid hK1; clear HG0 hB1 hK1) | (go_at_call 29; (refine (scanner_next k (w.heap.size + 1) a0 a1 l1 h1 _ w _ HI1.out HB1.out (by omega) (by omega) (by omega) (by omega) HTT.out HN.out).mono ?_); rintro e w2 ⟨rfl, hI2, hB2, hK2⟩; have HI2 := Lib.hid hI2; have HB2 := Lib.hid hB2; have HO2 := Lib.hid (Kd.R_keep (Kd.R_keep HO.out HK1.out (fun _ hk => hk.2)) hK2 (fun _ hk => hk.2)); have HC2 := Lib.hid ((hK2.2 w.heap.size (by have := IsS53.lt HI1.out; omega) (by omega) (by simp)).trans HC1.out)) | ((with_reducible refine gate_builtin (b := .append) (xs := #[.tmp 53, .tmp 55]) rfl ?_); (try (refine gate_guard (by rfl) ?_; dsimp only)); at_builtin; refine Kd.R_append k37 (w0 := w) w.heap.size rfl (.tmp 53) (.tmp 55) 22 37 (.agg #[(.int .i64 0), (.string ⟨#[]⟩), (.int .i64 0), (.int .i64 0)]) 40 rfl Tryd.underlying22 info37 rfl (by decide) (by omega) u5 out (⟨kd, tx, l1, ((a1 : Int) - h1 + 1)⟩ : S37) [.int .i64 kd, .string tx, .int .i64 l1, .int .i64 ((a1 : Int) - h1 + 1)] (fun k_ => k_ ≠ w.heap.size ∧ k_ ≠ w.heap.size + 1) (fun _ => False) rfl (by show Value.slice (some ⟨w2.heap.size + 1, 0, none⟩) 1 1 = _; simp) ?aP (fun _ hk => hk.elim) ?aF ?aO ?aB ?aS ?aL ?_; (case aP => exact k37_mkM _ _ _ _); (case aF => exact fun k_ hk => (by have h2 := IsS53.lt HI2.out; simp at hk; constructor <;> omega)); (case aO => exact (rxq HO2.out)); (case aB => exact (by repeat (first | (with_reducible first | exact HB2.out | apply below_alloc | apply pw_below_drewN | apply below_drew1) | exact HB2.out))); (case aS => (have h2 := IsS53.lt HI2.out; simp; omega)); (case aL => omega); intro v3 w3 ho3 hb3 hg3 hat3; have HO3 := Lib.hid ho3; have HB3 := Lib.hid hb3; have HG3 := Lib.hid hg3; clear ho3 hb3 hg3 hat3))
      go_roundg f
      case measure => omega
      case rel =>
       refine ⟨a1 + n, l1, h1, _, hb1, by omega, by omega, ?_, HR3, ?_, HB3, ?_, HO3⟩
       ·
        simp; omega
       ·
        obtain ⟨hi, hi2⟩ := HI2.out
        have h2 := IsS53.lt HI2.out
        exact ⟨(HG3.out.block _ (by simp; omega) (fun e => (HO2.out.1 _ e.symm).2 rfl)).trans ((Below.heap_alloc _ _ _ (by omega)).trans hi), hi2⟩
       ·
        have h2 := IsS53.lt HI2.out
        exact (HG3.out.block _ (by simp; omega) (fun e => (HO2.out.1 _ e.symm).1 rfl)).trans ((Below.heap_alloc _ _ _ (by omega)).trans HC2.out)
end Go.Proofs.YteedjhoffjkhmaaDoor.PT
