import Derived.Test.YteledidnhjioaaaSjH
import Derived.Deep.DeepCutAuto
import Derived.Deep.CutBlock
namespace Go.Proofs.Yteledidnhjioaaa.St
open Go.RowKit Go.Lib Go.Proofs Go.Shelf Go.Proofs.Yteledidnhjioaaa.Sh
set_option linter.unusedVariables false
set_option linter.unusedSimpArgs false
attribute [local go_sem] Oper.semAt_some
theorem boxed_later {W W' : World} {B : Nat} {t : TypeId} {v : Value} (h : Boxed W B t v) (k : Later W W') : Boxed W' B t v := h.kept k.grown (fun e => by cases e)
theorem boxed_chg {X : Nat → Prop} {W W' : World} {B : Nat} {t : TypeId} {v : Value} (h : Boxed W B t v) (k : Chg X W W') (hx : ¬ X B) : Boxed W' B t v := (k.block B h.lt hx).trans h
theorem boxed_new {W : World} {B : Nat} (t : TypeId) (v : Value) (h : B = W.heap.size) : Boxed (W.alloc (.cells #[v] t)) B t v := by rw [h]; exact Boxed.new W t v
/-- what is laid down first -/
structure Base (W : World) (BX : Nat) (x : ByteArray) : Prop where
  x : Boxed W BX 9 (.string x)
  r : Boxed W (BX + 1) 4 (.bool false)
theorem Base.later {W W' : World} {BX : Nat} {x : ByteArray} (h : Base W BX x) (l : Later W W') : Base W' BX x := ⟨boxed_later h.x l, boxed_later h.r l⟩
theorem Base.new (w : World) (x : ByteArray) : Base ((w.alloc (.cells #[.string x] 9)).alloc (.cells #[.bool false] 4)) w.heap.size x := by
  have h1 := Boxed.new w 9 (.string x)
  have h2 := Boxed.new (w.alloc (.cells #[.string x] 9)) 4 (.bool false)
  simp only [World.size_alloc] at h2
  exact ⟨boxed_later h1 ((Later.refl _).alloc _), h2⟩
theorem Base.chg {X : Nat → Prop} {W W' : World} {BX : Nat} {x : ByteArray} (h : Base W BX x) (c : Chg X W W') (hx : ∀ b, X b → BX + 1 < b) : Base W' BX x :=
  ⟨boxed_chg h.x c (fun e => by have := hx _ e; omega), boxed_chg h.r c (fun e => by have := hx _ e; omega)⟩
def textT (l : List ByteArray) : Tr ByteArray := l.foldl (fun T x => (T.put cmpD x false).1) .leaf
theorem textT_snoc (l : List ByteArray) (x : ByteArray) : textT (l ++ [x]) = ((textT l).put cmpD x false).1 := by simp [textT]
theorem textT_rises (l : List ByteArray) : Rises cmpD (textT l).list :=
  fold_ind (f := fun (T : Tr ByteArray) x => (T.put cmpD x false).1) (P := fun (T : Tr ByteArray) _ => Rises cmpD T.list) (fun T n x h => put_rises ordD h) l .leaf 0 List.Pairwise.nil
theorem textT_size (l : List ByteArray) : (textT l).size ≤ l.length := by
  have h := fold_ind (f := fun (T : Tr ByteArray) x => (T.put cmpD x false).1) (P := fun (T : Tr ByteArray) n => T.size ≤ n) (fun T n x h => by have := (Tr.put_size cmpD x false T).2; show ((T.put cmpD x false).1).size ≤ n + 1; omega) l .leaf 0 (Nat.le_refl _)
  rwa [Nat.zero_add] at h
theorem fold_mem (z : ByteArray) : ∀ (l : List ByteArray) (T : Tr ByteArray), Rises cmpD T.list → (z ∈ (l.foldl (fun (T : Tr ByteArray) x => (T.put cmpD x false).1) T).list ↔ z ∈ T.list ∨ z ∈ l)
  | [], T, _ => by simp
  | y :: t, T, hr => by
    rw [List.foldl_cons, fold_mem z t _ (put_rises ordD hr), (put_list ordD y false T hr).1, mem_ins, List.mem_cons]
    constructor
    · rintro ((h | h) | h)
      · exact .inr (.inl h)
      · exact .inl h
      · exact .inr (.inr h)
    · rintro (h | h | h)
      · exact .inl (.inr h)
      · exact .inl (.inl h)
      · exact .inr h
theorem textT_mem (z : ByteArray) (l : List ByteArray) : z ∈ (textT l).list ↔ z ∈ l := by
  unfold textT
  rw [fold_mem z l .leaf List.Pairwise.nil]
  simp [Tr.list]
theorem textT_has (l : List ByteArray) (y : ByteArray) : ((textT l).put cmpD y false).2 = hasL cmpD y l := by
  rw [(put_list ordD y false _ (textT_rises l)).2, Bool.eq_iff_iff, hasL_iff, hasL_iff, textT_mem]
/-- the Shelf, and all that came behind it -/
abbrev upS (SB M : Nat) : Nat → Prop := fun b => b = SB ∨ M ≤ b
theorem eqF66 (g : Nat) (lb : Array Value) (w : World) : (binOp .eql 66 (.func (.func g) #[] lb) .nilFunc).run Try.prog w = .ok (.bool false) w := by kernel_rfl
theorem has_one (y z : ByteArray) : hasL cmpD y [z] = (z.toList == y.toList) := by
  rw [Bool.eq_iff_iff, hasL_iff, List.mem_singleton, beq_iff_eq, ByteArray.toList_eq, ByteArray.toList_eq]
  constructor
  · rintro rfl; rfl
  · intro h; exact (ByteArray.ext (Array.ext' h)).symm
theorem last_less {L : List ByteArray} (hr : Rises cmpD L) {pre : List ByteArray} {y v : ByteArray} (hp : pre ++ [y] <+: L) (hv : pre.getLast? = some v) : less y v = true := by
  obtain ⟨r, rfl⟩ := hp
  obtain ⟨ys, rfl⟩ := List.getLast?_eq_some_iff.1 hv
  have := rises_at ordD hr (i := ys.length) (j := ys.length + 1) (x := v) (y := y) (by omega) (by simp) (by simp)
  rwa [cmpD_lt] at this
theorem less_three (y x : ByteArray) : (Op.bytesLess y.toList x.toList = false ∧ (y.toList == x.toList) = false ∧ less x y = true) ∨ (Op.bytesLess y.toList x.toList = true ∧ less x y = false) ∨ (y = x ∧ less x y = false) := by
  by_cases h1 : less x y = true
  · refine .inl ⟨less_asymm _ _ h1, ?_, h1⟩
    simp only [beq_eq_false_iff_ne, ne_eq]
    intro e
    rw [less, e, less_irrefl] at h1
    cases h1
  · have h1' : less x y = false := by simpa using h1
    by_cases h2 : less y x = true
    · exact .inr (.inl ⟨h2, h1'⟩)
    · exact .inr (.inr ⟨less_same (by simpa using h2) h1', h1'⟩)
set_option maxRecDepth 100000 in
set_option maxHeartbeats 20000000 in
theorem texts_walk {l : List ByteArray} (x : ByteArray) {w : World} {A : Option Addr} {cap : Nat} (hl : TextsAt w A cap l) (hz : l.length ≤ 13999999999998) :
    Calls Try.prog 7 #[.slice A l.length cap, .string x] w fun e w' => e = .returned (.bool true) ∧ Later w w' := by
  have hcap := hl.1
  refine (callsIn_wide (n := 3)).1 ?_
  refine callsIn_of_wp_marks Try.func7 rfl trivial ?_ rfl
  simp only [Try.ntmps7, List.size_toArray, List.length_cons, List.length_nil, Nat.reduceAdd, Nat.reduceSub, Array.replicate_succ, Array.replicate_zero, List.push_toArray, List.append_toArray, List.nil_append, List.cons_append]
  refine wpIn_wide.2 ?_
  obtain ⟨W0, hW0⟩ : ∃ W0, (w.alloc (.cells #[.string x] 9)).alloc (.cells #[.bool false] 4) = W0 := ⟨_, rfl⟩
  obtain ⟨BX, hBX⟩ : ∃ BX, w.heap.size = BX := ⟨_, rfl⟩
  have b0 : Base W0 BX x := by rw [← hW0, ← hBX]; exact Base.new w x
  have l0 : Later w W0 := by rw [← hW0]; exact ((Later.refl w).alloc _).alloc _
  go_wp2_with fail
  go_at_call 16; refine (awake_any W0).mono ?_; rintro e W1 ⟨rfl, l1⟩
  have hnew := new_any 36 W1
  unfold newPost at hnew
  obtain ⟨SB, hSB⟩ : ∃ SB, W1.heap.size = SB := ⟨_, rfl⟩
  rw [hSB] at hnew
  go_wp2_with fail
  go_at_call 35; refine hnew.mono ?_; rintro e W2 ⟨rfl, s2, l2⟩
  have bS := Boxed.new W2 61 (.pointer (some ⟨SB, 0, none⟩))
  have lS : Later W2 (W2.alloc (.cells #[.pointer (some ⟨SB, 0, none⟩)] 61)) := (Later.refl _).alloc _
  have sS := s2.later lS
  obtain ⟨BS, hBS⟩ : ∃ BS, W2.heap.size = BS := ⟨_, rfl⟩
  have hSS : SB < BS := by rw [← hBS]; exact s2.lt
  rw [hBS] at bS
  have l3 : Later w (W2.alloc (.cells #[.pointer (some ⟨SB, 0, none⟩)] 61)) := ((l0.next l1).next l2).next lS
  have b3 := ((b0.later l1).later l2).later lS
  have cS := bS.cell
  have hwS : w.heap.size ≤ SB := by rw [← hSB]; exact (l0.next l1).size
  have hBXS : BX + 1 < SB := by rw [← hSB]; exact (b0.later l1).r.lt
  have hs0 := shf_new sS (only SB)
  clear hnew hW0 b0 l0 l1 l2 s2 sS
  go_wp2_with fail
  generalize W2.alloc (.cells #[.pointer (some ⟨SB, 0, none⟩)] 61) = W3 at bS lS l3 b3 cS hs0 ⊢
  have hwBX : w.heap.size ≤ BX := by omega
  clear hSB hBX
  go_loopw [6] (fun i wr => ∃ k : Nat, k ≤ l.length ∧ i = .int .i64 k ∧ Shf (only SB) wr SB 36 (textT (l.take k)) ∧ Chg (only SB) W3 wr) (fun i _ => l.length - (intOf i).toNat)
  case atStart => exact ⟨0, Nat.zero_le _, rfl, hs0, Chg.refl _ _⟩
  case round =>
    obtain ⟨k, hk, rfl, hs, hc⟩ := hrel
    generalize wr = Wr at hs hc ⊢
    by_cases hlt : k < l.length
    · obtain ⟨y, hy⟩ : ∃ y, l[k]? = some y := ⟨_, List.getElem?_eq_getElem hlt⟩
      have hlr := hl.far l3 hc hwS
      obtain ⟨b, o, hA, cy⟩ := hlr.2.2 _ _ hy
      subst hA
      have bSr := boxed_chg bS hc (fun e => by have : BS = SB := e; omega)
      have hts : Hid (l.take (k + 1) = l.take k ++ [y]) := hid (take_snoc hy)
      go_wp2_with fail
      go_loopw [7, 8] (fun t j wx => ∃ m : Nat, m ≤ k ∧ t = .bool (hasL cmpD y (l.take m)) ∧ j = .int .i64 m ∧ Later Wr wx) (fun _ j _ => k - (intOf j).toNat)
      case atStart => exact ⟨0, Nat.zero_le _, rfl, rfl, Later.refl _⟩
      case round =>
        obtain ⟨m, hm, rfl, rfl, lm⟩ := hrel
        by_cases hmk : m < k
        · obtain ⟨z, hzz⟩ : ∃ z, l[m]? = some z := ⟨_, List.getElem?_eq_getElem (by omega)⟩
          obtain ⟨b', o', hA, cz⟩ := (hlr.later lm).2.2 _ _ hzz
          cases hA
          have htm : Hid (hasL cmpD y (l.take (m + 1)) = (hasL cmpD y (l.take m) || (z.toList == y.toList))) := hid (by rw [take_snoc hzz, hasL_append, has_one])
          have hcl : ∀ W', Later Wr W' → W'.cell? ⟨b, o + m, none⟩ = some (.string z) ∧ W'.cell? ⟨b, o + k, none⟩ = some (.string y) := fun W' k' => by
            obtain ⟨b1, o1, e1, c1⟩ := (hlr.later k').2.2 _ _ hzz
            cases e1
            exact ⟨c1, k'.cell cy⟩
          generalize hasL cmpD y (l.take m) = q at htm ⊢
          have hml : (m : Int) < l.length := by omega
          have hkl : (k : Int) < l.length := by omega
          have hm0 : (0 : Int) ≤ (m : Int) := by omega
          have hk0 : (0 : Int) ≤ (k : Int) := by omega
          obtain ⟨Good, hGd⟩ : ∃ G : World → Prop, ∀ W', G W' ↔ Later Wr W' := ⟨_, fun _ => Iff.rfl⟩
          have hG0 : Good wr.drew := (hGd _).2 lm.drew
          have hne : Nonempty (InG Good) := ⟨⟨_, hG0⟩⟩
          have f0 : ∀ p : InG Good, p.W.cell? ⟨b, o + m, none⟩ = some (.string z) ∧ p.W.cell? ⟨b, o + k, none⟩ = some (.string y) := fun p => hcl _ ((hGd _).1 p.h)
          replace hGd := hid hGd
          clear hzz hy cz hcl
          cases q with
          | true =>
            go_wp2_with fail
            refine region_in Good (by kernel_rfl) (by kernel_rfl) hG0 ?_
            repeat (go_big_quiet_step (fail))
            refine wpQuiet_nil ?_
            intro w7 hw7
            have l7 := (hGd.out _).1 hw7
            clear f0 hGd hne hG0 hw7
            go_wp2_with fail
            go_roundw
            case rel => exact ⟨m + 1, by omega, by rw [htm.out]; rfl, by go_num, l7⟩
            case measure => simp [intOf]; omega
          | false =>
            go_wp2_with fail
            refine region_in Good (by kernel_rfl) (by kernel_rfl) hG0 ?_
            repeat (go_big_quiet_step (fail))
            refine wpQuiet_nil ?_
            intro w7 hw7
            have l7 := (hGd.out _).1 hw7
            clear f0 hGd hne hG0 hw7
            go_wp2_with fail
            go_roundw
            case rel => exact ⟨m + 1, by omega, by rw [htm.out]; rfl, by go_num, l7⟩
            case measure => simp [intOf]; omega
        · obtain rfl : m = k := by omega
          have lmw := lm
          have hsm := hs.later lm
          have hput := add_any (X := only SB) compD y (hsm.later (Later.drew (Later.refl wr))) (fun b hb => by cases hb; exact (hsm.later (Later.drew (Later.refl wr))).lt) rfl (by have := textT_size (l.take m); rw [List.length_take_of_le hk] at this; omega)
          rw [textT_has, ← textT_snoc, ← hts.out] at hput
          generalize hasL cmpD y (l.take m) = q at hput ⊢
          have hcl : ∀ W', Chg (only SB) W3 W' → W'.cell? ⟨b, o + m, none⟩ = some (.string y) ∧ W'.cell? ⟨BS, 0, none⟩ = some (.pointer (some ⟨SB, 0, none⟩)) := fun W' k' => by
            obtain ⟨b1, o1, e1, c1⟩ := (hl.far l3 k' hwS).2.2 _ _ hy
            cases e1
            exact ⟨c1, (boxed_chg bS k' (fun e => by have : BS = SB := e; omega)).cell⟩
          have hcd : Chg (only SB) W3 wr.drew := (hc.trans lm.chg).trans (Later.chg (Later.drew (Later.refl wr)))
          have hkl : (m : Int) < l.length := by omega
          have hk0 : (0 : Int) ≤ (m : Int) := by omega
          clear hy cy
          go_wp2_with fail
          go_region_held3 (fun W' => Chg (only SB) W3 W') (first | assumption | exact Chg.trans hcd g2) (first
            | (go_at_call 37; (with_reducible refine hput.mono ?_); rintro e w2 ⟨rfl, s2, g2⟩))
          have hcg := hcd.trans g2
          cases q with
          | true =>
            go_wp2_with fail
            go_roundw
            case rel => exact ⟨m + 1, by omega, by go_num, s2, hcg⟩
            case measure => simp [intOf]; omega
          | false =>
            go_wp2_with fail
            go_roundw
            case rel => exact ⟨m + 1, by omega, by go_num, s2, hcg⟩
            case measure => simp [intOf]; omega
    · obtain rfl : k = l.length := by omega
      rw [List.take_length] at hs
      generalize Wr = Wa at hs hc ⊢
      have lwA := l3.far hwS hc
      have bA := b3.chg hc (fun b e => by have : b = SB := e; omega)
      have bSA := boxed_chg bS hc (fun e => by have : BS = SB := e; omega)
      have hTz := textT_size l
      have hri := textT_rises l
      have hmem := fun z => textT_mem z l
      obtain ⟨T, hT⟩ : ∃ T, textT l = T := ⟨_, rfl⟩
      rw [hT] at hs hTz hri hmem
      obtain ⟨M, hM⟩ : ∃ M, Wa.heap.size = M := ⟨_, rfl⟩
      have hSM : SB < M := by rw [← hM]; exact hs.lt
      have hs' : Shf (upS SB M) Wa SB 36 T := hs.more fun b h1 h2 => h1.elim id (fun h1 => by omega)
      have hal : ∀ W, Later Wa W → Calls Try.prog 38 #[.pointer (some ⟨SB, 0, none⟩)] W fun e w' => ∃ bt, e = .returned (allV bt) ∧ Later W w' ∧ AllAt (upS SB M) w' bt T ∧ Later Wa w' := fun W lw => (all_any (hs'.later lw)).mono fun e w' h => ⟨W.heap.size, h.1, h.2.1, h.2.2, lw.next h.2.1⟩
      have hfr : ∀ W, Later Wa W → Calls Try.prog 39 #[.pointer (some ⟨SB, 0, none⟩), .string x] W fun e w' => ∃ bt cb xb, e = .returned (fromV bt cb xb) ∧ Later W w' ∧ FromAt (upS SB M) w' 36 bt cb xb x T ∧ Later Wa w' := fun W lw => (from_any x (hs'.later lw)).mono fun e w' h => by
        obtain ⟨bt, cb, xb, h1, h2, h3, h4, h5, h6⟩ := h
        exact ⟨bt, cb, xb, h1, h5, h6, lw.next h5⟩
      have hcl : ∀ W', Later Wa W' → W'.cell? ⟨BS, 0, none⟩ = some (.pointer (some ⟨SB, 0, none⟩)) ∧ W'.cell? ⟨BX, 0, none⟩ = some (.string x) := fun W' k' => ⟨(boxed_later bSA k').cell, (bA.later k').x.cell⟩
      clear hlt hk hT hs' hs0 cS b3
      go_wp2_with fail
      go_region_held3 (fun W' => Later Wa W') (first | assumption | exact Later.drew (Later.refl _)) (first
        | (go_at_call 38; (with_reducible refine (hal _ (by assumption)).mono ?_); rintro e w8 ⟨bt, rfl, l8, a8, lw8⟩)
        | (go_at_call 39; (with_reducible refine (hfr _ (by assumption)).mono ?_); rintro e w9 ⟨bt', cb, xb, rfl, l9, f9, lw9⟩))
      have a9 : AllAt (upS SB M) w9 bt T := by
        obtain ⟨p, h1, h2⟩ := a8.tree
        exact ⟨p, Later.cell (by assumption) h1, h2.keep (Later.chg (by assumption))⟩
      have b9 := bA.later lw9
      have bS9 := boxed_later bSA lw9
      have lww := lwA.next lw9
      have s9 := hs.later lw9
      have hS9 : SB < w9.heap.size := s9.lt
      clear hal hfr hcl a8 l8 lw8 l9
      have hF9 := eqF66 69 #[.pointer (some ⟨bt, 0, none⟩)]
      have hF10 := eqF66 73 #[.pointer (some ⟨bt', 0, none⟩), .pointer (some ⟨cb, 0, none⟩), .pointer (some ⟨xb, 0, none⟩)]
      generalize w9 = Wb at a9 f9 b9 bS9 lww s9 hS9 lw9 ⊢
      have bN := (Boxed.new Wb 3 (.int .i64 0)).alloc (.cells #[.int .i64 0] 3) |>.alloc (.cells #[.string ByteArray.empty] 9)
      have bB := (Boxed.new (Wb.alloc (.cells #[.int .i64 0] 3)) 3 (.int .i64 0)).alloc (.cells #[.string ByteArray.empty] 9)
      have bL := Boxed.new ((Wb.alloc (.cells #[.int .i64 0] 3)).alloc (.cells #[.int .i64 0] 3)) 9 (.string ByteArray.empty)
      have lN : Later Wb (((Wb.alloc (.cells #[.int .i64 0] 3)).alloc (.cells #[.int .i64 0] 3)).alloc (.cells #[.string ByteArray.empty] 9)) := (((Later.refl _).alloc _).alloc _).alloc _
      have hNs : (((Wb.alloc (.cells #[.int .i64 0] 3)).alloc (.cells #[.int .i64 0] 3)).alloc (.cells #[.string ByteArray.empty] 9)).heap.size = Wb.heap.size + 3 := by simp
      simp only [World.size_alloc] at bB bL
      obtain ⟨N, hN⟩ : ∃ N, Wb.heap.size = N := ⟨_, rfl⟩
      rw [hN] at bN bB bL hNs hS9
      obtain ⟨W6, hW6⟩ : ∃ W6, ((Wb.alloc (.cells #[.int .i64 0] 3)).alloc (.cells #[.int .i64 0] 3)).alloc (.cells #[.string ByteArray.empty] 9) = W6 := ⟨_, rfl⟩
      rw [hW6] at bN bB bL lN hNs
      replace hW6 := hid hW6
      have hX6 : ∀ b, W6.heap.size ≤ b → fresh Wb b := fun b h => by show Wb.heap.size ≤ b; omega
      obtain ⟨m, hm⟩ : ∃ m, T.list.length = m := ⟨_, rfl⟩
      have hmT : Hid (m = T.size) := hid (by rw [← hm]; exact Tr.size_list T)
      have hmz : m ≤ 13999999999998 := by have := hmT.out; omega
      replace hm := hid hm
      obtain ⟨pt, hpt1, hpt2⟩ := a9.tree
      have hseq := all_seq (X := fresh Wb) hpt1 (hpt2.more fun b h1 h2 => by have : Wb.heap.size ≤ b := h1; omega)
      go_upto_block 4 with fail
      rw [show ((Wb.alloc (.cells #[.int .i64 0] 3)).alloc (.cells #[.int .i64 0] 3)).alloc (.cells #[.string ⟨#[]⟩] 9) = W6 from hW6.out]
      refine block_range (w0 := Wb) (X := fresh Wb) (xs := T.list) 14 (by rfl) enters69 hseq lN hX6
        (fun pre W => ((Boxed W N 3 (.int .i64 (pre.length : Nat)) ∧ Boxed W (N + 1) 3 (.int .i64 (rankL cmpD x pre : Nat))) ∧ Boxed W (N + 1 + 1) 9 (.string (pre.getLast?.getD ByteArray.empty))) ∧ Below Wb.heap.size Wb W)
        (fun c pre W => c = .ret ∧ ¬ pre <+: T.list)
        (OwnFrom.and (OwnFrom.and (OwnFrom.and (Own.from (boxed_own _ _ _) _) (Own.from (boxed_own _ _ _) _)) (Own.from (boxed_own _ _ _) _)) (ownFrom_below (Nat.le_refl _) (by omega)))
        (fun c => ownFrom_pure _ _)
        ⟨⟨⟨bN, bB⟩, bL⟩, lN⟩ (fun c pre W h hp => absurd hp h.2) ?assign ?body ?next
      case assign =>
        intro l' y W K hK
        simp only [inTmps, List.setIfInBounds_toArray, List.set_cons_zero, List.set_cons_succ] at hK ⊢
        gi_wp2
        exact hK
      case body =>
        rintro l' pre y W ⟨⟨⟨bN1, bB1⟩, bL1⟩, hL⟩ hlt
        simp only [inTmps, List.setIfInBounds_toArray, List.set_cons_zero, List.set_cons_succ]
        rw [hm.out] at hlt
        have hL' : Later Wb W := hL
        have cN := bN1.cell
        have fN := bN1.frozen
        have cB := bB1.cell
        have fB := bB1.frozen
        have cR := (b9.later hL').r.cell
        have fR := (b9.later hL').r.frozen
        have cX := (b9.later hL').x.cell
        have hrk : rankL cmpD x pre ≤ pre.length := List.countP_le_length
        have tail : ∀ W1, KeepsFrom W6.heap.size W W1 → Chg (fresh Wb) W W1 → Boxed W1 N 3 (.int .i64 (pre.length : Nat)) → Boxed W1 (N + 1) 3 (.int .i64 (rankL cmpD x (pre ++ [y]) : Nat)) → Boxed W1 (N + 1 + 1) 9 (.string (pre.getLast?.getD ByteArray.empty)) → Below Wb.heap.size Wb W1 →
            KeepsFrom W6.heap.size W ((W1.setCell ⟨N + 1 + 1, 0, none⟩ (.string y)).setCell ⟨N, 0, none⟩ (.int .i64 ((pre.length : Int) + 1))) ∧ Chg (fresh Wb) W ((W1.setCell ⟨N + 1 + 1, 0, none⟩ (.string y)).setCell ⟨N, 0, none⟩ (.int .i64 ((pre.length : Int) + 1))) ∧
            (((Boxed ((W1.setCell ⟨N + 1 + 1, 0, none⟩ (.string y)).setCell ⟨N, 0, none⟩ (.int .i64 ((pre.length : Int) + 1))) N 3 (.int .i64 ((pre ++ [y]).length : Nat)) ∧ Boxed ((W1.setCell ⟨N + 1 + 1, 0, none⟩ (.string y)).setCell ⟨N, 0, none⟩ (.int .i64 ((pre.length : Int) + 1))) (N + 1) 3 (.int .i64 (rankL cmpD x (pre ++ [y]) : Nat))) ∧
              Boxed ((W1.setCell ⟨N + 1 + 1, 0, none⟩ (.string y)).setCell ⟨N, 0, none⟩ (.int .i64 ((pre.length : Int) + 1))) (N + 1 + 1) 9 (.string ((pre ++ [y]).getLast?.getD ByteArray.empty))) ∧ Below Wb.heap.size Wb ((W1.setCell ⟨N + 1 + 1, 0, none⟩ (.string y)).setCell ⟨N, 0, none⟩ (.int .i64 ((pre.length : Int) + 1)))) := fun W1 k1 k2 k3 k4 k5 k6 => by
          have z1 : Chg (fresh Wb) W1 (W1.setCell ⟨N + 1 + 1, 0, none⟩ (.string y)) := Chg.set _ _ (show Wb.heap.size ≤ N + 1 + 1 by omega)
          have z2 : Chg (fresh Wb) (W1.setCell ⟨N + 1 + 1, 0, none⟩ (.string y)) ((W1.setCell ⟨N + 1 + 1, 0, none⟩ (.string y)).setCell ⟨N, 0, none⟩ (.int .i64 ((pre.length : Int) + 1))) := Chg.set _ _ (show Wb.heap.size ≤ N by omega)
          refine ⟨(k1.trans ((KeepsOthers.setCell _ _ _).from _)).trans ((KeepsOthers.setCell _ _ _).from _), (k2.trans z1).trans z2, ⟨⟨?_, ?_⟩, ?_⟩, ?_⟩
          · rw [List.length_append]; exact (k3.other (by omega) _).set _
          · exact (k4.other (by omega) _).other (by omega) _
          · rw [List.getLast?_concat]; exact (k5.set _).other (by omega) _
          · exact Below.setCell (p := ⟨N, 0, none⟩) (Below.setCell (p := ⟨N + 1 + 1, 0, none⟩) k6 (by show Wb.heap.size ≤ N + 1 + 1; omega) _) (by show Wb.heap.size ≤ N; omega) _
        have tailB : less x y = true → _ := fun h => tail (W.setCell ⟨N + 1, 0, none⟩ (.int .i64 ((rankL cmpD x pre : Nat) + 1))) ((KeepsOthers.setCell _ _ _).from _) (Chg.set _ _ (show Wb.heap.size ≤ N + 1 by omega)) (bN1.other (by omega) _) (by rw [rankL_snoc, if_pos ((cmpD_lt y x).2 h)]; exact bB1.set _) (bL1.other (by omega) _) (Below.setCell (p := ⟨N + 1, 0, none⟩) hL (by show Wb.heap.size ≤ N + 1; omega) _)
        have tailA : less x y = false → _ := fun h => tail W (KeepsFrom.refl _ _) (Chg.refl _ _) bN1 (by rw [rankL_snoc, if_neg (by rw [cmpD_lt, h]; simp)]; exact bB1) bL1 hL
        clear tail
        cases hg : pre.getLast? with
        | none =>
          have hp0 : pre = [] := List.getLast?_eq_none_iff.1 hg
          have hd0 : decide (0 < pre.length) = false := by rw [hp0]; rfl
          have hd1 : decide ((0 : Int) < (pre.length : Int)) = false := by rw [hp0]; rfl
          have cL := bL1.cell
          have fL := bL1.frozen
          clear hp0 hg
          rcases less_three y x with ⟨g1, g2, g3⟩ | ⟨g1, g3⟩ | ⟨g1, g3⟩
          · gi_wp2
            exact tailB g3
          · gi_wp2
            exact tailA g3
          · subst g1
            gi_wp2
            exact tailA g3
        | some v =>
          have hp0 : 0 < pre.length := by
            cases pre with
            | nil => cases hg
            | cons a t => simp
          have hd0 : decide (0 < pre.length) = true := by simp [hp0]
          have hd1 : decide ((0 : Int) < (pre.length : Int)) = true := by simp; omega
          have cL := bL1.cell
          have fL := bL1.frozen
          rw [hg] at cL
          have cL' : W.cell? ⟨N + 1 + 1, 0, none⟩ = some (.string v) := cL
          clear cL
          by_cases hle : less y v = true
          · have v1 := less_asymm _ _ hle
            have v2 : (v.toList == y.toList) = false := by
              simp only [beq_eq_false_iff_ne, ne_eq]
              intro e
              rw [less, e, less_irrefl] at hle
              cases hle
            clear hg hp0 hle
            rcases less_three y x with ⟨g1, g2, g3⟩ | ⟨g1, g3⟩ | ⟨g1, g3⟩
            · gi_wp2
              exact tailB g3
            · gi_wp2
              exact tailA g3
            · subst g1
              gi_wp2
              exact tailA g3
          · have hnp : ¬ pre ++ [y] <+: T.list := fun h => hle (last_less hri h hg)
            have hle' : less y v = false := by simpa using hle
            clear hle hg hp0 tailA tailB
            by_cases v1 : Op.bytesLess v.toList y.toList = true
            · gi_wp2
              exact ⟨(KeepsOthers.setCell _ _ _).from _, rfl, hnp⟩
            · have v1' : Op.bytesLess v.toList y.toList = false := by simpa using v1
              have e := less_same v1' hle'
              subst e
              clear v1
              gi_wp2
              exact ⟨(KeepsOthers.setCell _ _ _).from _, rfl, hnp⟩
      case next =>
        rintro D1 W hD1 hK1 hI
        have hI' : Boxed W N 3 (.int .i64 (m : Nat)) ∧ Boxed W (N + 1) 3 (.int .i64 (rankL cmpD x T.list : Nat)) ∧ Later Wb W := by
          rcases hI with ⟨⟨⟨a, b⟩, _⟩, c⟩ | ⟨pre, hx⟩
          · exact ⟨by rw [← hm.out]; exact a, b, c⟩
          · exact absurd hx.1 (by simp)
        obtain ⟨bN2, bB2, hLW⟩ := hI'
        clear hI bN bB bL
        obtain ⟨R, hR⟩ : ∃ R, rankL cmpD x T.list = R := ⟨_, rfl⟩
        have hRm : R ≤ m := by rw [← hm.out, ← hR]; exact List.countP_le_length
        have hfrom : Hid ((T.from_ fun y => decide (cmpD y x < 0)) = T.list.drop R) := hid (by rw [from_list ordD x T hri, from_drop ordD x hri, hR])
        have hDk : ∀ y ∈ T.list.drop R, less x y = false := fun y hy => by
          rw [← hR, ← from_drop ordD x hri] at hy
          have := (List.mem_filter.1 hy).2
          have h2 : ¬ cmpD y x < 0 := by simpa using this
          rw [cmpD_lt] at h2
          simpa using h2
        rw [hR] at bB2
        replace hR := hid hR
        have hDl : Hid ((T.list.drop R).length = m - R) := hid (by rw [List.length_drop, hm.out])
        have cN2 := bN2.cell
        have lK : Later W (W.alloc (.cells #[.int .i64 0] 3)) := (Later.refl _).alloc _
        have bK := Boxed.new W 3 (.int .i64 0)
        obtain ⟨NK, hNK⟩ : ∃ NK, W.heap.size = NK := ⟨_, rfl⟩
        rw [hNK] at bK
        have hW7s : (W.alloc (.cells #[.int .i64 0] 3)).heap.size = NK + 1 := by rw [World.size_alloc, hNK]
        obtain ⟨W7, hW7⟩ : ∃ W7, W.alloc (.cells #[.int .i64 0] 3) = W7 := ⟨_, rfl⟩
        rw [hW7] at lK bK hW7s
        replace hW7 := hid hW7
        have hNb : Wb.heap.size ≤ NK := by rw [← hNK]; exact hLW.size
        have hL7 := hLW.next lK
        obtain ⟨q7, hq1, hq2⟩ := f9.tree
        have hcb := cell_lt f9.cmp
        have hxb := cell_lt f9.x0
        have hqt : Tree (fresh Wb) W7 q7 T := (hq2.more (Y := fresh Wb) fun b h1 h2 => by have h3 : Wb.heap.size ≤ b := h1; omega).keep hL7.chg
        have hseq2 := from_seq compD x (X := fresh Wb) (hL7.cell hq1) hqt (hL7.cell f9.cmp) (hL7.cell f9.x0) (fun e => by have : Wb.heap.size ≤ cb := e; omega) (fun e => by have : Wb.heap.size ≤ xb := e; omega)
        rw [hfrom.out] at hseq2
        have hX7 : ∀ b, W7.heap.size ≤ b → fresh Wb b := fun b h => Nat.le_trans hL7.size h
        clear hqt hq1 hq2
        go_upto_block 6 with fail
        rw [hW7.out]
        refine block_range (w0 := W7) (X := fresh Wb) (xs := T.list.drop R) 16 (by rfl) enters73 hseq2 (Later.refl W7) hX7
          (fun pre V => Boxed V NK 3 (.int .i64 (pre.length : Nat)) ∧ Below W.heap.size W V)
          (fun c pre V => c = .ret ∧ ¬ pre <+: T.list.drop R)
          (OwnFrom.and (Own.from (boxed_own _ _ _) _) (ownFrom_below (Nat.le_refl _) (by omega)))
          (fun c => ownFrom_pure _ _)
          ⟨bK, lK⟩ (fun c pre V h hp => absurd hp h.2) ?assign ?body ?next
        case assign =>
          intro l' y V K hK
          simp only [inTmps, List.setIfInBounds_toArray, List.set_cons_zero, List.set_cons_succ] at hK ⊢
          gi_wp2
          exact hK
        case body =>
          rintro l' pre y V ⟨bK1, hL⟩ hlt
          simp only [inTmps, List.setIfInBounds_toArray, List.set_cons_zero, List.set_cons_succ]
          rw [hDl.out] at hlt
          have hL' : Later W V := hL
          have hLb := hLW.next hL'
          have cK := bK1.cell
          have fK := bK1.frozen
          have cS := (boxed_later bS9 hLb).cell
          have cB := (boxed_later bB2 hL').cell
          have cX := (b9.later hLb).x.cell
          have cR := (b9.later hLb).r.cell
          have fR := (b9.later hLb).r.frozen
          obtain ⟨z, hz⟩ : ∃ z, (T.list.drop R)[pre.length]? = some z := ⟨_, List.getElem?_eq_getElem (by rw [hDl.out]; exact hlt)⟩
          have hzD := hDk z (List.mem_of_getElem? hz)
          have hz' : T.list[R + pre.length]? = some z := by rw [List.getElem?_drop] at hz; exact hz
          have hnth := nth_some (R + pre.length) (s9.later hLb) (by have := hmT.out; omega) hz'
          rw [show ((R + pre.length : Nat) : Int) = (R : Int) + (pre.length : Int) by omega] at hnth
          have hpr : (R : Int) + (pre.length : Int) ≤ 13999999999998 := by omega
          have h40 : FW.fn 40 := trivial
          have h40' : (FW.inRound l').fn 40 := trivial
          have tail : ∀ w7, Later V w7 → KeepsFrom W7.heap.size V (w7.setCell ⟨NK, 0, none⟩ (.int .i64 ((pre.length : Int) + 1))) ∧ Chg (fresh Wb) V (w7.setCell ⟨NK, 0, none⟩ (.int .i64 ((pre.length : Int) + 1))) ∧ (Boxed (w7.setCell ⟨NK, 0, none⟩ (.int .i64 ((pre.length : Int) + 1))) NK 3 (.int .i64 ((pre ++ [y]).length : Nat)) ∧ Below W.heap.size W (w7.setCell ⟨NK, 0, none⟩ (.int .i64 ((pre.length : Int) + 1)))) := fun w7 l7 => by
            have cz : Chg (fresh Wb) w7 (w7.setCell ⟨NK, 0, none⟩ (.int .i64 ((pre.length : Int) + 1))) := Chg.set _ _ (show Wb.heap.size ≤ NK by omega)
            exact ⟨kf_later_set l7 _ _, (Later.chg l7).trans cz, by rw [List.length_append]; exact (boxed_later bK1 l7).set _, Below.setCell (p := ⟨NK, 0, none⟩) (hL'.next l7) (by show W.heap.size ≤ NK; omega) _⟩
          by_cases hyz : y = z
          · subst hyz
            clear hz hz' hDk
            rcases less_three y x with ⟨_, _, g3⟩ | ⟨g1, _⟩ | ⟨g1, _⟩
            · rw [hzD] at g3; cases g3
            · gi_wp2_with (gi_at_call 40; refine (CallsIn.inRound l' (callsIn_wide.2 hnth)).mono ?_; rintro e w7 ⟨rfl, l7⟩; have cK7 := l7.cell cK; have cX7 := l7.cell cX; have fK7 := (boxed_later bK1 l7).frozen)
              exact tail _ l7
            · subst g1
              gi_wp2_with (gi_at_call 40; refine (CallsIn.inRound l' (callsIn_wide.2 hnth)).mono ?_; rintro e w7 ⟨rfl, l7⟩; have cK7 := l7.cell cK; have cX7 := l7.cell cX; have fK7 := (boxed_later bK1 l7).frozen)
              exact tail _ l7
          · have hnp : ¬ pre ++ [y] <+: T.list.drop R := fun h => hyz (by have := prefix_snoc_iff h; rw [hz] at this; exact (Option.some.inj this).symm)
            have hne : (z.toList == y.toList) = false := by
              simp only [beq_eq_false_iff_ne, ne_eq, ByteArray.toList_eq]
              intro e
              exact hyz (ByteArray.ext (Array.ext' e)).symm
            clear hyz hz hz' hDk tail
            gi_wp2_with (gi_at_call 40; refine (CallsIn.inRound l' (callsIn_wide.2 hnth)).mono ?_; rintro e w7 ⟨rfl, l7⟩; have cR7 := l7.cell cR; have cX7 := l7.cell cX; have fR7 := ((b9.later hLb).later l7).r.frozen)
            exact ⟨kf_later_set l7 _ _, rfl, hnp⟩
        case next =>
          rintro D2 W2 hD2 hK2 hI
          obtain ⟨d, hd⟩ : ∃ d, m - R = d := ⟨_, rfl⟩
          have hI' : Boxed W2 NK 3 (.int .i64 (d : Nat)) ∧ Later W W2 := by
            rcases hI with ⟨a, b⟩ | ⟨pre, hx⟩
            · exact ⟨by rw [← hd, ← hDl.out]; exact a, b⟩
            · exact absurd hx.1 (by simp)
          obtain ⟨bK2, hL2⟩ := hI'
          have hD1l := (Array.getElem?_eq_some_iff.1 hK1).1
          have hKd : W2.heap[D1]? = some (.deferred (some [])) := (hL2.block D1 hD1l).trans hK1
          have hLb2 := hLW.next hL2
          have hsum : (R : Int) + (d : Int) = (m : Int) := by omega
          have hsT := s9.later hLb2
          obtain ⟨Good, hGd⟩ : ∃ G : World → Prop, ∀ W', G W' ↔ Later W2 W' := ⟨_, fun _ => Iff.rfl⟩
          have hG0 : Good W2.drew := (hGd _).2 (Later.drew (Later.refl W2))
          have hne : Nonempty (InG Good) := ⟨⟨_, hG0⟩⟩
          have g1 : ∀ p : InG Good, Calls Try.prog 41 #[.pointer (some ⟨SB, 0, none⟩)] p.W fun e w'' => e = .returned (.int .i64 (m : Nat)) ∧ ∃ p' : InG Good, w'' = p'.W := fun p => (len_is (hsT.later ((hGd _).1 p.h)) hmT.out).mono fun e w'' hh => ⟨hh.1, p, hh.2.symm⟩
          have g2 : ∀ p : InG Good, Calls Try.prog 42 #[.pointer (some ⟨SB, 0, none⟩), .string x] p.W fun e w'' => e = .returned (.int .i64 (R : Nat)) ∧ ∃ p' : InG Good, w'' = p'.W := fun p => by
            have k := rank_same compD x (hsT.later ((hGd _).1 p.h)) (by have := hmT.out; omega) hri
            rw [hR.out] at k
            exact k.mono fun e w'' hh => ⟨hh.1, ⟨w'', (hGd _).2 (((hGd _).1 p.h).next hh.2)⟩, rfl⟩
          have f0 : ∀ p : InG Good, p.W.cell? ⟨N, 0, none⟩ = some (.int .i64 (m : Nat)) ∧ p.W.cell? ⟨N + 1, 0, none⟩ = some (.int .i64 (R : Nat)) ∧ p.W.cell? ⟨NK, 0, none⟩ = some (.int .i64 (d : Nat)) ∧ p.W.cell? ⟨BS, 0, none⟩ = some (.pointer (some ⟨SB, 0, none⟩)) ∧ p.W.cell? ⟨BX, 0, none⟩ = some (.string x) := fun p => by
            have lp := (hGd _).1 p.h
            exact ⟨(boxed_later bN2 (hL2.next lp)).cell, (boxed_later bB2 (hL2.next lp)).cell, lp.cell bK2.cell, (boxed_later bS9 (hLb2.next lp)).cell, (b9.later (hLb2.next lp)).x.cell⟩
          replace hGd := hid hGd
          clear hI cN2
          go_wp2_with fail
          refine region_in Good (by kernel_rfl) (by kernel_rfl) hG0 ?_
          repeat (go_big_quiet_step ((first | (go_at_call 41; exact g1 _) | (go_at_call 42; exact g2 _))))
          refine wpQuiet_nil ?_
          intro W8 hw8
          have l8 := (hGd.out _).1 hw8
          clear g1 g2 f0 hGd hne hG0 hw8
          have lb8 := hLb2.next l8
          have b8 := b9.later lb8
          have bS8 := boxed_later bS9 lb8
          have s8 := s9.later lb8
          have lw8 := lww.next lb8
          have hK18 : W8.heap[D1]? = some (.deferred (some [])) := (l8.block D1 (Array.getElem?_eq_some_iff.1 hKd).1).trans hKd
          have hK28 : W8.heap[D2]? = some (.deferred (some [])) := (l8.block D2 (Array.getElem?_eq_some_iff.1 hK2).1).trans hK2
          have hBSl : BX + 1 < SB := hBXS
          clear hseq hseq2
          go_wp2_with fail
          go_loopw [19] (fun i wr => ∃ (k : Nat) (F : Tr ByteArray), k ≤ l.length ∧ i = .int .i64 k ∧ Shf (only SB) wr SB 36 F ∧ Rises cmpD F.list ∧ F.size ≤ T.size ∧ (∀ z, z ∈ F.list ↔ z ∈ l ∧ ¬ z ∈ l.take k) ∧ Chg (only SB) W8 wr) (fun i _ => l.length - (intOf i).toNat)
          case atStart => exact ⟨0, T, Nat.zero_le _, rfl, s8, hri, Nat.le_refl _, fun z => by simp [hmem z], Chg.refl _ _⟩
          case round =>
            obtain ⟨k, F, hk, rfl, hs3, hrF, hFz, hmF, hc3⟩ := hrel
            by_cases hlt : k < l.length
            · obtain ⟨y, hy⟩ : ∃ y, l[k]? = some y := ⟨_, List.getElem?_eq_getElem hlt⟩
              obtain ⟨b, o, hA, cy⟩ := (hl.far lw8 hc3 hwS).2.2 _ _ hy
              subst hA
              have hcl : ∀ W', Chg (only SB) W8 W' → W'.cell? ⟨b, o + k, none⟩ = some (.string y) ∧ W'.cell? ⟨BS, 0, none⟩ = some (.pointer (some ⟨SB, 0, none⟩)) := fun W' k' => by
                obtain ⟨b1, o1, e1, c1⟩ := (hl.far lw8 k' hwS).2.2 _ _ hy
                cases e1
                exact ⟨c1, (boxed_chg bS8 k' (fun e => by have : BS = SB := e; omega)).cell⟩
              have hsd := hs3.later (Later.drew (Later.refl wr))
              have hrem := remove_any (X := only SB) compD y hsd (fun b hb => by cases hb; exact hsd.lt) rfl (by have := hmT.out; omega)
              have hoz := Tr.out_size cmpD y F
              have hro := out_rises ordD (x := y) hrF
              have hof := out_find ordD (x := y) hrF
              have hmem2 : ∀ z, z ∈ (F.out cmpD y).1.list ↔ z ∈ l ∧ ¬ z ∈ l.take (k + 1) := fun z => by
                rw [(out_list ordD y F hrF).1, mem_rem hrF, hmF, take_snoc hy, List.mem_append, List.mem_singleton]
                exact ⟨fun h => ⟨h.1.1, fun h' => h'.elim h.1.2 h.2⟩, fun h => ⟨⟨h.1, fun h' => h.2 (.inl h')⟩, fun h' => h.2 (.inr h')⟩⟩
              obtain ⟨Q, hQ⟩ : ∃ Q, F.out cmpD y = Q := ⟨_, rfl⟩
              rw [hQ] at hrem hoz hro hof hmem2
              have hcd : Chg (only SB) W8 wr.drew := hc3.trans (Later.chg (Later.drew (Later.refl wr)))
              have hkl : (k : Int) < l.length := by omega
              have hk0 : (0 : Int) ≤ (k : Int) := by omega
              clear hy cy hQ
              go_wp2_with fail
              go_region_held3 (fun W' => Chg (only SB) W8 W') (first | assumption | exact Chg.trans hcd g2) (first
                | (go_at_call 43; (with_reducible refine hrem.mono ?_); rintro e w2 ⟨rfl, s2, g2⟩))
              have hcg := hcd.trans g2
              have hfn := find_none compD y (s2.later (Later.drew (Later.refl w2))) hof
              have hcg2 : Chg (only SB) W8 w2.drew := hcg.trans (Later.chg (Later.drew (Later.refl w2)))
              go_wp2_with fail
              go_region_held3 (fun W' => Chg (only SB) W8 W') (first | assumption | exact hcg2.trans (Later.chg l4)) (first
                | (go_at_call 44; (with_reducible refine hfn.mono ?_); rintro e w4 ⟨rfl, l4⟩))
              have l24 : Later w2 w4 := (Later.drew (Later.refl w2)).next l4
              have hcg4 := hcg.trans (Later.chg l24)
              go_wp2_with fail
              go_roundw
              case rel => exact ⟨k + 1, Q.1, by omega, by go_num, s2.later l24, hro, by omega, hmem2, hcg4⟩
              case measure => simp [intOf]; omega
            · obtain rfl : k = l.length := by omega
              have hF0 : F.size = 0 := by
                rw [← Tr.size_list]
                cases h : F.list with
                | nil => rfl
                | cons a t =>
                  have := (hmF a).1 (by rw [h]; simp)
                  rw [List.take_length] at this
                  exact absurd this.1 this.2
              have hlen := len_is hs3 hF0.symm
              have bS3 := boxed_chg bS8 hc3 (fun e => by have : BS = SB := e; omega)
              have bR3 := boxed_chg b8.r hc3 (fun e => by have : BX + 1 = SB := e; omega)
              have cS3 := bS3.cell
              have cR3 := bR3.cell
              have fR3 := bR3.frozen
              have hK13 : wr.heap[D1]? = some (.deferred (some [])) := (hc3.block D1 (Array.getElem?_eq_some_iff.1 hK18).1 (fun e => by have h1 : D1 = SB := e; omega)).trans hK18
              have hK23 : wr.heap[D2]? = some (.deferred (some [])) := (hc3.block D2 (Array.getElem?_eq_some_iff.1 hK28).1 (fun e => by have h1 : D2 = SB := e; omega)).trans hK28
              have lwr := lw8.far hwS hc3
              clear hmF hmem
              go_wp2_with (go_at_call 41; (with_reducible refine hlen.mono ?_); rintro e w' ⟨rfl, rfl⟩)
              have hF2 : (wr.setCell ⟨BX + 1, 0, none⟩ (.bool true)).heap[D2]? = some (.deferred (some [])) := (KeepsOthers.setCell _ _ _).same D2 _ hK23 rfl
              have hF1 : (wr.setCell ⟨BX + 1, 0, none⟩ (.bool true)).heap[D1]? = some (.deferred (some [])) := (KeepsOthers.setCell _ _ _).same D1 _ hK13 rfl
              have bF := bR3.set (.bool true)
              have lF : Later w (wr.setCell ⟨BX + 1, 0, none⟩ (.bool true)) := Below.setCell (p := ⟨BX + 1, 0, none⟩) lwr (by show w.heap.size ≤ BX + 1; omega) _
              generalize wr.setCell ⟨BX + 1, 0, none⟩ (.bool true) = Wf at hF2 hF1 bF lF ⊢
              have hlt1 := (Array.getElem?_eq_some_iff.1 hF1).1
              have hG1 : (Wf.putObj D2 (.deferred none)).heap[D1]? = some (.deferred (some [])) := ((grownBy_putObj' Wf D2 (.deferred none)).block D1 hlt1 (fun e => by injection e with e; omega)).trans hF1
              refine ⟨by simp, .inl ⟨_, _, rfl, run_takeDeferred hF2, by simp, .inl ⟨_, _, rfl, run_takeDeferred hG1, ?_⟩⟩⟩
              have l1 := lF.trans (belowK_b (w := w) (Nat.le_refl _) _ D2 _ (.deferred none) (by omega) hF2 rfl rfl)
              have b1 := bF.kept (grownBy_putObj' _ D2 (.deferred none)) (fun e => by cases e; rw [show _ = _ from bF] at hF2; cases hF2)
              have l2 := l1.trans (belowK_b (w := w) (Nat.le_refl _) _ D1 _ (.deferred none) (by omega) hG1 rfl rfl)
              have b2 := (b1.kept (grownBy_putObj' _ D1 (.deferred none)) (fun e => by cases e; rw [show _ = _ from b1] at hG1; cases hG1)).cell
              generalize (Wf.putObj D2 (.deferred none)).putObj D1 (.deferred none) = Wg at b2 l2 ⊢
              exact ⟨_, by simp [results, Try.results7, go_sem, b2], rfl, l2⟩
end Go.Proofs.Yteledidnhjioaaa.St
