import Derived.Test.YteledidnhjioaaaSlA
namespace Go.Proofs.Yteledidnhjioaaa.Sh
open Go.RowKit Go.Lib Go.Proofs Go.Shelf
set_option linter.unusedVariables false
set_option linter.unusedSimpArgs false
attribute [local go_sem] Oper.semAt_some
theorem joins_empty (w : World) : Calls Try.prog 49 #[.func (.func 45) #[] #[], .slice none 0 0] w fun e V => e = .returned (joinV w.heap.size) ∧ Later w V ∧ Boxed V w.heap.size 54 (.func (.func 45) #[] #[]) ∧ Boxed V (w.heap.size + 1) 110 (.slice none 0 0) := by
  have bC := (Boxed.new w 54 (.func (.func 45) #[] #[])).alloc (.cells #[.slice none 0 0] 110)
  have bL := Boxed.new (w.alloc (.cells #[.func (.func 45) #[] #[]] 54)) 110 (.slice none 0 0)
  rw [World.size_alloc] at bL
  have hl : Later w ((w.alloc (.cells #[.func (.func 45) #[] #[]] 54)).alloc (.cells #[.slice none 0 0] 110)) := ((Later.refl w).alloc _).alloc _
  go_enter Try.func49, Try.ntmps49
  go_wp2_with fail
  go_ret
  exact ⟨rfl, hl, bC, bL⟩
/-- one list that counts in a block of its own -/
def Ms (W8 : World) (SN n : Nat) (V : World) : Prop := (∃ c : Int, (0 ≤ c ∧ c ≤ 8796093022080 * (n : Int)) ∧ Seen V SN n n c) ∧ Chg (fun b => b = SN ∨ W8.heap.size ≤ b) W8 V
theorem Ms.lt {W8 V : World} {SN n : Nat} (h : Ms W8 SN n V) : SN < V.heap.size := by obtain ⟨⟨c, _, h⟩, _⟩ := h; exact h.lt
theorem Ms.chg {W8 : World} {SN n : Nat} {A V : World} {X : Nat → Prop} (h : Ms W8 SN n A) (c : Chg X A V) (hx : ∀ b, X b → W8.heap.size ≤ b) (hs : SN < W8.heap.size) : Ms W8 SN n V := by
  obtain ⟨⟨k, hk, h1⟩, h2⟩ := h
  exact ⟨⟨k, hk, h1.chg c (fun e => by have := hx _ e; omega)⟩, h2.trans (c.mono fun b hb => .inr (hx b hb))⟩
theorem Ms.later {W8 : World} {SN n : Nat} {A V : World} (h : Ms W8 SN n A) (l : Later A V) (hs : SN < W8.heap.size) : Ms W8 SN n V := h.chg (X := fun _ => False) l.chg (fun _ h => h.elim) hs
structure Lo (W8 : World) (SN BL BP : Nat) (l : List (Int × Int)) (A : Option Addr) (cap : Nat) : Prop where
  sl : SliceAt W8 A cap l
  bl : Boxed W8 BL 22 (.slice A l.length cap)
  bp : Boxed W8 BP 31 (.pointer (some ⟨SN, 0, none⟩))
  ne : ∀ f o, A = some ⟨f, o, none⟩ → l ≠ [] → f ≠ SN
  nb : BL ≠ SN ∧ BP ≠ SN
  hs : SN < W8.heap.size
  z : l.length ≤ 8796093022080
theorem seq_one {W8 : World} {SN BL BP cap n : Nat} {l : List (Int × Int)} {A : Option Addr} (h : Lo W8 SN BL BP l A cap) {V : World} (hV : Ms W8 SN n V) (hn : n ≤ 100) (X : Nat → Prop) (hX : ∀ b, X b → W8.heap.size ≤ b) :
    SeqW X (only SN) 55 #[.pointer (some ⟨BP, 0, none⟩), .pointer (some ⟨BL, 0, none⟩)] l (fun _ => Ms W8 SN (n + 1)) V := by
  obtain ⟨⟨c, hc, hs1⟩, hch⟩ := hV
  have hlL := h.bl.lt
  have hlP := h.bp.lt
  have hsl : SliceAt V A cap l := slice_keep h.sl hch (fun f o e h0 hx => hx.elim (fun hx => h.ne f o e h0 hx) (fun hx => by have := h.sl.block f o e h0; omega))
  have hq := list_seq (X := X) hsl (boxed_turn h.bl hch (fun e => e.elim h.nb.1 (fun e => by omega))) (boxed_turn h.bp hch (fun e => e.elim h.nb.2 (fun e => by omega))) hs1 (fun e => by have := hX _ e; omega) (fun e => by have := hX _ e; omega) (fun e => by have := hX _ e; have := h.hs; omega)
    (fun f o e h0 _ => ⟨fun hx => by have := hX _ hx; have := h.sl.block f o e h0; omega, h.ne f o e h0⟩) (by omega) (by omega) (by omega) (by have := h.z; omega)
  refine SeqW.keep hq (mg_keep hX hch.size) hch (fun k U hk hg hu => ⟨⟨c + k, ?_, hg⟩, hu⟩)
  have := h.z
  omega
def steps1 (W8 : World) (SN n : Nat) (a b : Nat) : Nat → World → Prop
  | 0 => Ms W8 SN n
  | 1 => Ms W8 SN (n + a)
  | _ => Ms W8 SN (n + a + b)
/-- Meet, Without of one list and one that isn't there -/
theorem split_first {W8 : World} {SN BL BP cap n B : Nat} {both : Bool} {l : List (Int × Int)} {A : Option Addr} (h : Lo W8 SN BL BP l A cap) {V : World} (hB : SplitAt V B (.func (.func 45) #[] #[]) (listV BP BL) .nilFunc both) (hb : W8.heap.size ≤ B) (hV : Ms W8 SN n V) (hn : n ≤ 100) :
    SeqZ (fresh V) (only SN) 89 #[.pointer (some ⟨B, 0, none⟩), .pointer (some ⟨B + 1, 0, none⟩), .pointer (some ⟨B + 1 + 1, 0, none⟩), .pointer (some ⟨B + 1 + 1 + 1, 0, none⟩)] (splitL both l []) (fun _ => Ms W8 SN (n + 1)) V := by
  obtain ⟨⟨⟨b0, b1⟩, b2⟩, b3⟩ := hB
  have l0 := b0.lt
  have l3 := b3.lt
  have hs := h.hs
  have hVs := hV.2.size
  refine splits_seq (c := 45) (BC := B) (BP := B + 1) (BQ := B + 1 + 1) (BF := B + 1 + 1 + 1) (both := both) (f := cmpR) (vp := listV BP BL) (vq := .nilFunc) (p := l) (q := []) (X := fresh V) (Z := only SN) (I := steps1 W8 SN n 1 0) (w0 := V)
    compR signR b0 b1 b2 b3 (fun e => by have : V.heap.size ≤ B := e; omega) (fun e => by have : B = SN := e; omega) (fun e => by have : V.heap.size ≤ B + 1 + 1 + 1 := e; omega) (fun e => by have : B + 1 + 1 + 1 = SN := e; omega)
    (fun b e => by have : b = SN := e; have := hV.lt; omega) (fun W hW => ?_) (fun i U V' hi c => ?_) hV h.z (Nat.zero_le _)
  · have hWs := hW.size
    have hX : ∀ b, upb W.heap.size b → W8.heap.size ≤ b := fun b e => by have : W.heap.size ≤ b := e; omega
    exact ⟨.inr ⟨55, _, rfl, enters55, fun U hU => (seq_one h hU hn _ hX).z⟩, .inl ⟨rfl, rfl, fun U hU => hU⟩⟩
  · have hx : ∀ b, (V.heap.size ≤ b ∨ fresh V b) → W8.heap.size ≤ b := fun b e => e.elim (fun e => by omega) (fun e => by have : V.heap.size ≤ b := e; omega)
    match i, hi with
    | 0, hi => exact Ms.chg hi c hx hs
    | 1, hi => exact Ms.chg hi c hx hs
    | i + 2, hi => exact Ms.chg hi c hx hs
theorem split_second {W8 : World} {SN BL BP cap n B : Nat} {both : Bool} {l : List (Int × Int)} {A : Option Addr} (h : Lo W8 SN BL BP l A cap) {V : World} (hB : SplitAt V B (.func (.func 45) #[] #[]) .nilFunc (listV BP BL) both) (hb : W8.heap.size ≤ B) (hV : Ms W8 SN n V) (hn : n ≤ 100) :
    SeqZ (fresh V) (only SN) 89 #[.pointer (some ⟨B, 0, none⟩), .pointer (some ⟨B + 1, 0, none⟩), .pointer (some ⟨B + 1 + 1, 0, none⟩), .pointer (some ⟨B + 1 + 1 + 1, 0, none⟩)] [] (fun _ => Ms W8 SN (n + 1)) V := by
  obtain ⟨⟨⟨b0, b1⟩, b2⟩, b3⟩ := hB
  have l0 := b0.lt
  have l3 := b3.lt
  have hs := h.hs
  have hVs := hV.2.size
  refine splits_seq (c := 45) (BC := B) (BP := B + 1) (BQ := B + 1 + 1) (BF := B + 1 + 1 + 1) (both := both) (f := cmpR) (vp := .nilFunc) (vq := listV BP BL) (p := []) (q := l) (X := fresh V) (Z := only SN) (I := steps1 W8 SN n 0 1) (w0 := V)
    compR signR b0 b1 b2 b3 (fun e => by have : V.heap.size ≤ B := e; omega) (fun e => by have : B = SN := e; omega) (fun e => by have : V.heap.size ≤ B + 1 + 1 + 1 := e; omega) (fun e => by have : B + 1 + 1 + 1 = SN := e; omega)
    (fun b e => by have : b = SN := e; have := hV.lt; omega) (fun W hW => ?_) (fun i U V' hi c => ?_) hV (Nat.zero_le _) h.z
  · have hWs := hW.size
    have hX : ∀ b, upb W.heap.size b → W8.heap.size ≤ b := fun b e => by have : W.heap.size ≤ b := e; omega
    exact ⟨.inl ⟨rfl, rfl, fun U hU => hU⟩, .inr ⟨55, _, rfl, enters55, fun U hU => (seq_one h hU hn _ hX).z⟩⟩
  · have hx : ∀ b, (V.heap.size ≤ b ∨ fresh V b) → W8.heap.size ≤ b := fun b e => e.elim (fun e => by omega) (fun e => by have : V.heap.size ≤ b := e; omega)
    match i, hi with
    | 0, hi => exact Ms.chg hi c hx hs
    | 1, hi => exact Ms.chg hi c hx hs
    | i + 2, hi => exact Ms.chg hi c hx hs
theorem gathered_s {W8 : World} {SN n n' g : Nat} {lb : Array Value} {xs : List (Int × Int)} {V : World} (m : Nat) (hs : SN < W8.heap.size) (hV : Ms W8 SN n V) (h : SeqZ (fresh V) (only SN) g lb xs (fun _ => Ms W8 SN n') V) (hg : ∀ args w, (callFunc g args).run Try.prog w = .ok (.enter g args) w) (hz : xs.length ≤ 8796093022200) :
    Calls Try.prog 18 #[.func (.func g) #[] lb, .int .i64 m] V fun e U => ∃ v, e = .returned v ∧ U.ownsRow V.heap.size 27 2 v (xs.take m).length (flat (xs.take m)) ∧ Ms W8 SN n' U := by
  have hVs := hV.2.size
  refine (gathered_z m h hg (fun b e => by have : b = SN := e; have := hV.lt; omega) (fun k A' V' hA c => Ms.chg hA c (fun b e => by have : V.heap.size ≤ b := e; omega) hs) hz).mono ?_
  rintro e U ⟨v, rfl, h1, _, k, hk⟩
  exact ⟨v, rfl, h1, hk⟩
/-- what ends at once, gathered -/
theorem gathered_none {g : Nat} {lb : Array Value} {w : World} (m : Nat) (hcall : ∀ (l : Nat) (W : World), Later w W → Calls Try.prog g (#[.func (.yield l) #[] #[]] ++ lb) W fun e V => (∃ v, e = .returned v) ∧ Later W V) (hg : ∀ args w, (callFunc g args).run Try.prog w = .ok (.enter g args) w) :
    Calls Try.prog 18 #[.func (.func g) #[] lb, .int .i64 m] w fun e V => (∃ A cp, e = .returned (.slice A 0 cp)) ∧ Later w V := by
  refine (gathered_z (G := fun _ _ => True) (Z := fun _ => False) m (empty_seq (X := fresh w) (K := fun _ => True) hcall (fun _ _ => trivial)) hg (fun b h => h.elim) (fun _ _ _ _ _ => trivial) (Nat.zero_le _)).mono ?_
  rintro e V ⟨v, rfl, h1, h2, _⟩
  obtain ⟨A, cp, rfl⟩ := row_any h1
  exact ⟨⟨A, cp, by simp⟩, Chg.below h2 (Nat.le_refl _) (fun b h => h.elim)⟩
theorem gathered_join0 {J0 J1 : Nat} {w : World} (m : Nat) (bC : Boxed w J0 54 (.func (.func 45) #[] #[])) (bL : Boxed w J1 110 (.slice none 0 0)) :
    Calls Try.prog 18 #[.func (.func 78) #[] #[.pointer (some ⟨J0, 0, none⟩), .pointer (some ⟨J1, 0, none⟩)], .int .i64 m] w fun e V => (∃ A cp, e = .returned (.slice A 0 cp)) ∧ Later w V := by
  have hq := joins_seq (c := 45) (N := 0) (BC := J0) (BL := J1) (cap := 0) (f := cmpR) (ss := []) (X := fresh w) (Z := fun _ => False) (I := fun _ _ => True) (w0 := w) (A := none) compR signR bC bL (fun i s h => by simp at h) (Nat.le_refl _) (by simp) (fun e => by have := bC.lt; have : w.heap.size ≤ J0 := e; omega) (fun e => e) (fun b e => e.elim) (fun W hW i s h => by simp at h) (fun _ _ _ _ _ => trivial) trivial (fun i s h => by simp at h) (by simp) (by simp)
  refine (gathered_z (G := fun _ _ => True) (Z := fun _ => False) m hq enters78 (fun b h => h.elim) (fun _ _ _ _ _ => trivial) (Nat.zero_le _)).mono ?_
  rintro e V ⟨v, rfl, h1, h2, _⟩
  obtain ⟨A, cp, rfl⟩ := row_any h1
  exact ⟨⟨A, cp, by simp [mergeN]⟩, Chg.below h2 (Nat.le_refl _) (fun b h => h.elim)⟩
theorem split_none (l : List (Int × Int)) : splitL true l [] = [] := by
  induction l with
  | nil => rfl
  | cons x r ih => simp [splitL, below, likeH, ih]
theorem split_all (l : List (Int × Int)) : splitL false l [] = l := by
  induction l with
  | nil => rfl
  | cons x r ih => simp [splitL, below, likeH, ih]
end Go.Proofs.Yteledidnhjioaaa.Sh
namespace Go.Proofs.Yteledidnhjioaaa.Sh
open Go.RowKit Go.Lib Go.Proofs Go.Shelf
set_option linter.unusedVariables false
set_option linter.unusedSimpArgs false
attribute [local go_sem] Oper.semAt_some
theorem gathered_j {J0 J1 : Nat} {w : World} (bC : Boxed w J0 54 .nilFunc) : Calls Try.prog 18 #[.func (.func 78) #[] #[.pointer (some ⟨J0, 0, none⟩), .pointer (some ⟨J1, 0, none⟩)], .int .i64 1] w fun e V => (∃ A cp, e = .returned (.slice A 0 cp)) ∧ Later w V :=
  gathered_none (g := 78) (lb := #[.pointer (some ⟨J0, 0, none⟩), .pointer (some ⟨J1, 0, none⟩)]) 1 (fun l W h => call78 bC l W h) enters78
theorem gathered_p {B : Nat} {w : World} (bC : Boxed w B 54 .nilFunc) : Calls Try.prog 18 #[splitV B, .int .i64 1] w fun e V => (∃ A cp, e = .returned (.slice A 0 cp)) ∧ Later w V :=
  gathered_none (g := 89) (lb := #[.pointer (some ⟨B, 0, none⟩), .pointer (some ⟨B + 1, 0, none⟩), .pointer (some ⟨B + 1 + 1, 0, none⟩), .pointer (some ⟨B + 1 + 1 + 1, 0, none⟩)]) 1 (fun l W h => call89 bC l W h) enters89
theorem gathered_none1 {g : Nat} {lb : Array Value} {w : World} (hcall : ∀ (l : Nat) (W : World), Later w W → Calls Try.prog g (#[.func (.yield l) #[] #[]] ++ lb) W fun e V => (∃ v, e = .returned v) ∧ Later W V) (hg : ∀ args w, (callFunc g args).run Try.prog w = .ok (.enter g args) w) :
    Calls Try.prog 18 #[.func (.func g) #[] lb, .int .i64 1] w fun e V => (∃ A cp, e = .returned (.slice A 0 cp)) ∧ Later w V := gathered_none 1 hcall hg
set_option maxRecDepth 100000 in
set_option maxHeartbeats 40000000 in
theorem none_walk {l : List (Int × Int)} (i : Int) {w : World} {A : Option Addr} {cap : Nat} (hl : SliceAt w A cap l) (hz : l.length ≤ 8796093022080) :
    Calls Try.prog 11 #[.slice A l.length cap, .int .i64 i] w fun e w' => e = .returned (.bool true) ∧ Later w w' := by
  obtain ⟨n, hn⟩ : ∃ n, l.length = n := ⟨_, rfl⟩
  have hris := fun W (h : Later w W) => rising_ref (hl.later h) (by omega)
  have hxl := Tr.size_list (madeT l)
  have hxm := madeT_size l
  rw [hn] at hris ⊢
  generalize (madeT l).list = x at hris hxl
  have hxz : x.length ≤ 8796093022080 := by omega
  obtain ⟨m, hm⟩ : ∃ m, x.length = m := ⟨_, rfl⟩
  clear hxl hxm hn hz hl
  go_enter Try.func11, Try.ntmps11
  go_wp2_with fail
  go_at_call 30; refine (new_nil _).mono ?_; rintro e w1 ⟨rfl, rfl⟩
  go_wp2_with fail
  go_at_call 22; refine (add_nil i _).mono ?_; rintro e w2 ⟨rfl, l2⟩
  go_wp2_with fail
  go_at_call 23; refine (put_nil 0 _).mono ?_; rintro e w3 ⟨rfl, l3⟩
  go_wp2_with fail
  go_at_call 24; refine (remove_nil 0 _).mono ?_; rintro e w4 ⟨rfl, l4⟩
  go_wp2_with fail
  go_at_call 26; refine (len_nil _).mono ?_; rintro e w5 ⟨rfl, rfl⟩
  go_wp2_with fail
  go_at_call 34; refine (rank_nil i _).mono ?_; rintro e w6 ⟨rfl, l6⟩
  go_wp2_with fail
  go_at_call 20; refine (freeze_nil _).mono ?_; rintro e w7 ⟨rfl, l7⟩
  go_wp2_with fail
  go_at_call 32; refine (find_nil i _).mono ?_; rintro e w8 ⟨rfl, l8⟩
  have l18 := ((((l2.next l3).next l4).next l6).next l7).next l8
  clear l2 l3 l4 l6 l7 l8
  go_wp2_with fail
  go_at_call 33; refine (nth_nil i _).mono ?_; rintro e w9 ⟨rfl, l9⟩
  have lA : Later w8 (w8.alloc (.cells #[.int .i64 0, .int .i64 0] 27)) := (Later.refl w8).alloc _
  have z1 := two_new w8 (.int .i64 0) (.int .i64 0) 27
  obtain ⟨N1, hN1⟩ : ∃ N, w8.heap.size = N := ⟨_, rfl⟩
  rw [hN1] at z1 ⊢
  have lB : Later w9 (w9.alloc (.cells #[.int .i64 0, .int .i64 0] 27)) := (Later.refl w9).alloc _
  have z2 := two_new w9 (.int .i64 0) (.int .i64 0) 27
  obtain ⟨N2, hN2⟩ : ∃ N, w9.heap.size = N := ⟨_, rfl⟩
  rw [hN2] at z2
  have z3 : (w9.alloc (.cells #[.int .i64 0, .int .i64 0] 27)).cell? ⟨N1, 0, none⟩ = some (.int .i64 0) ∧ (w9.alloc (.cells #[.int .i64 0, .int .i64 0] 27)).cell? ⟨N1, 1, none⟩ = some (.int .i64 0) := ⟨(l9.next lB).cell z1.1, (l9.next lB).cell z1.2⟩
  have l1A := ((l18.next lA).next l9).next lB
  go_wp2_with fail
  go_at_call 19; refine (all_nil _).mono ?_; rintro e w10 ⟨rfl, l10⟩
  clear z1 z2 z3
  go_wp2_with fail
  go_at_call 18; refine (gathered_none1 (fun l W _ => call56 l W) enters56).mono ?_; rintro e w11 ⟨⟨Aa, cpa, rfl⟩, l11⟩
  go_wp2_with fail
  go_at_call 28; refine (from_nil i _).mono ?_; rintro e w12 ⟨rfl, l12⟩
  go_wp2_with fail
  go_at_call 18; refine (gathered_none1 (fun l W _ => call63 l W) enters63).mono ?_; rintro e w13 ⟨⟨Ab, cpb, rfl⟩, l13⟩
  have l113 := ((((l1A.next l10).next l11).next l12).next l13)
  have lC : Later w13 (w13.alloc (.cells #[.int .i64 0, .int .i64 0, .int .i64 0] 23)) := (Later.refl w13).alloc _
  have hs0 : Seen (w13.alloc (.cells #[.int .i64 0, .int .i64 0, .int .i64 0] 23)) w13.heap.size 0 0 0 := World.alloc_heap_new w13 _
  have hsz0 : (w13.alloc (.cells #[.int .i64 0, .int .i64 0, .int .i64 0] 23)).heap.size = w13.heap.size + 1 := World.size_alloc _ _
  obtain ⟨SN, hSN⟩ : ∃ N, w13.heap.size = N := ⟨_, rfl⟩
  rw [hSN] at hs0 hsz0
  have hr := hris _ (l113.next lC)
  clear l10 l11 l12 l13 l1A lA lB l9 l18
  go_wp2_with fail
  try rw [hSN]
  go_at_call 27; refine hr.mono ?_; rintro e w14 ⟨v, rfl, rowx, l14⟩
  obtain ⟨Ax, cx, rfl, sx, hbx⟩ := row_slice2 rowx (by omega) hm
  rw [hsz0] at hbx
  have l114 := (l113.next lC).next l14
  go_wp2_with fail
  go_at_call 13; refine list_any.mono ?_; rintro e w15 ⟨rfl, l15, bL, bP⟩
  have l115 := l114.next l15
  have hs15 := (hs0.later l14).later l15
  have hz14 := l14.size
  have hSN15 : SN < w15.heap.size := hs15.lt
  have hlo : Lo w15 SN w14.heap.size (w14.heap.size + 1) x Ax cx := ⟨sx.later l15, by rw [hm]; exact bL, bP, fun f o e _ => by have := (hbx f o e).1; omega, ⟨by omega, by omega⟩, hSN15, hxz⟩
  have m0 : Ms w15 SN 0 w15 := ⟨⟨0, ⟨by omega, by omega⟩, hs15⟩, Chg.refl _ _⟩
  have hSNw : w.heap.size ≤ SN := by rw [← hSN]; exact l113.size
  obtain ⟨BL, hBL⟩ : ∃ N, w14.heap.size = N := ⟨_, rfl⟩
  rw [hBL] at hlo ⊢
  clear hr hris lC hs0 hsz0 rowx sx hbx l14 l15 bL bP l113 l114 hs15 hz14 hBL hSN
  go_wp2_with fail
  go_at_call 12; refine (gather_nil i _).mono ?_; rintro e w16 ⟨rfl, l16⟩
  have m1 := m0.later l16 hlo.hs
  have lD : Later w16 (w16.alloc (.cells #[listV (BL + 1) BL] 29)) := (Later.refl w16).alloc _
  have z4 : (w16.alloc (.cells #[listV (BL + 1) BL] 29)).cell? ⟨w16.heap.size, 0, none⟩ = some (listV (BL + 1) BL) := (Boxed.new w16 29 (listV (BL + 1) BL)).cell
  have hj := joins_none (cap := 1) z4 (by simp [Value.oneCell'])
  have m2 := m1.later lD hlo.hs
  clear m0 m1 l16
  go_wp2_with fail
  go_at_call 49; refine hj.mono ?_; rintro e w17 ⟨rfl, l17, bC⟩
  have m3 := m2.later l17 hlo.hs
  rw [World.size_alloc] at bC
  try rw [World.size_alloc]
  clear hj z4 lD m2 l17
  go_wp2_with fail
  go_at_call 18; refine (gathered_j bC).mono ?_; rintro e w18 ⟨⟨Ac, cpc, rfl⟩, l18⟩
  have m4 := m3.later l18 hlo.hs
  clear m3 l18 bC
  go_wp2_with fail
  go_at_call 50; refine (meet_vals (.inl rfl) (.inr ⟨_, _, rfl⟩) (.inr ⟨_, _, rfl⟩)).mono ?_; rintro e w19 ⟨rfl, l19, hB⟩
  have m5 := m4.later l19 hlo.hs
  clear m4 l19
  go_wp2_with fail
  go_at_call 18; refine (gathered_p hB.1.1.1).mono ?_; rintro e w20 ⟨⟨Ad, cpd, rfl⟩, l20⟩
  have m6 := m5.later l20 hlo.hs
  clear m5 l20 hB
  go_wp2_with fail
  go_at_call 51; refine (without_vals (.inl rfl) (.inr ⟨_, _, rfl⟩) (.inl rfl)).mono ?_; rintro e w21 ⟨rfl, l21, hB⟩
  have m7 := m6.later l21 hlo.hs
  clear m6 l21
  go_wp2_with fail
  go_at_call 18; refine (gathered_p hB.1.1.1).mono ?_; rintro e w22 ⟨⟨Ae, cpe, rfl⟩, l22⟩
  have m8 := m7.later l22 hlo.hs
  clear m7 l22 hB
  go_wp2_with fail
  go_at_call 49; refine (joins_empty _).mono ?_; rintro e w23 ⟨rfl, l23, bC, bJ⟩
  have m9 := m8.later l23 hlo.hs
  have hj : Calls Try.prog 18 #[joinV w22.heap.size, .int .i64 1] w23 _ := gathered_join0 1 bC bJ
  clear m8 l23
  go_wp2_with fail
  go_at_call 18; refine hj.mono ?_; rintro e w24 ⟨⟨Af, cpf, rfl⟩, l24⟩
  have m10 := m9.later l24 hlo.hs
  clear m9 l24 hj bC bJ
  go_wp2_with fail
  go_at_call 50; refine (meet_vals (.inr ⟨_, _, rfl⟩) (.inr ⟨_, _, rfl⟩) (.inl rfl)).mono ?_; rintro e w25 ⟨rfl, l25, hB⟩
  have m11 := m10.later l25 hlo.hs
  have hj : Calls Try.prog 18 #[splitV w24.heap.size, .int .i64 1] w25 _ := gathered_s 1 hlo.hs m11 (split_first hlo hB m10.2.size m11 (by omega)) enters89 (by rw [split_none]; simp)
  clear m10 l25 hB
  go_wp2_with fail
  go_at_call 18; refine hj.mono ?_; rintro e w26 ⟨v, rfl, row26, m12⟩
  rw [split_none] at row26
  obtain ⟨Ag, cpg, rfl⟩ := row_any row26
  clear m11 hj row26
  go_wp2_with fail
  go_at_call 51; refine (without_vals (.inr ⟨_, _, rfl⟩) (.inl rfl) (.inr ⟨_, _, rfl⟩)).mono ?_; rintro e w27 ⟨rfl, l27, hB⟩
  have m13 := m12.later l27 hlo.hs
  have hj : Calls Try.prog 18 #[splitV w26.heap.size, .int .i64 1] w27 _ := gathered_s 1 hlo.hs m13 (split_second hlo hB m12.2.size m13 (by omega)) enters89 (by simp)
  clear m12 l27 hB
  go_wp2_with fail
  go_at_call 18; refine hj.mono ?_; rintro e w28 ⟨v, rfl, row28, m14⟩
  obtain ⟨Ah, cph, rfl⟩ := row_any row28
  clear m13 hj row28
  go_wp2_with fail
  go_at_call 51; refine (without_vals (.inr ⟨_, _, rfl⟩) (.inr ⟨_, _, rfl⟩) (.inl rfl)).mono ?_; rintro e w29 ⟨rfl, l29, hB⟩
  have m15 := m14.later l29 hlo.hs
  have hj : Calls Try.prog 18 #[splitV w28.heap.size, .int .i64 ((m : Int) + 1)] w29 _ := gathered_s (m + 1) hlo.hs m15 (split_first hlo hB m14.2.size m15 (by omega)) enters89 (by rw [split_all]; omega)
  rw [split_all, List.take_of_length_le (by omega)] at hj
  have ne := hlo.ne
  clear m14 l29 hB
  go_wp2_with fail
  go_at_call 18; refine hj.mono ?_; rintro e w30 ⟨v, rfl, row30, m16⟩
  obtain ⟨Ai, cpi, rfl, si, _⟩ := row_slice2 row30 (by omega) hm
  have sx := slice_keep hlo.sl m16.2 (fun f o e h0 hx => hx.elim (fun hx => ne f o e h0 hx) (fun hx => by have := hlo.sl.block f o e h0; omega))
  have hsm := same_ref si sx
  rw [hm, decide_eq_true rfl] at hsm
  have lend : Later w w30 := Below.trans l115 (Chg.below m16.2 l115.size (fun b h => h.elim (fun h => by omega) (fun h => Nat.le_trans l115.size h)))
  clear m15 m16 hj row30 si sx ne hlo
  go_wp2_with fail
  go_at_call 14; refine hsm.mono ?_; rintro e w31 ⟨rfl, l31⟩
  go_wp2_with fail
  go_at_call 16; refine (awake_any _).mono ?_; rintro e w32 ⟨rfl, l32⟩
  go_wp2_with fail
  go_ret
  exact ⟨by simp, lend.next (l31.next l32)⟩
end Go.Proofs.Yteledidnhjioaaa.Sh
