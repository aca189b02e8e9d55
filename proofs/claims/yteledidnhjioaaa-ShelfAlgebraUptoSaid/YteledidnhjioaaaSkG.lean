import Derived.Test.YteledidnhjioaaaSkF
namespace Go.Proofs.Yteledidnhjioaaa.Sh
open Go.RowKit Go.Lib Go.Proofs Go.Shelf
set_option linter.unusedVariables false
set_option linter.unusedSimpArgs false
attribute [local go_sem] Oper.semAt_some
theorem SqOk.form {X Z : Nat → Prop} {I I' : World → Prop} {s : Sq} (h : SqOk X Z I I' s) : s.v = .nilFunc ∨ ∃ gf lb, s.v = .func (.func gf) #[] lb := by
  rcases h with ⟨h, _⟩ | ⟨gf, lb, h, _⟩
  · exact .inl h
  · exact .inr ⟨gf, lb, h⟩
set_option maxRecDepth 100000 in
/-- Meet and Without as a sequence -/
theorem splits_seq {c BC BP BQ BF : Nat} {both : Bool} {f : (Int × Int) → (Int × Int) → Int} {vp vq : Value} {p q : List (Int × Int)} {X Z : Nat → Prop} {I : Nat → World → Prop} {w0 : World}
    (hc : Comp c f) (hf : ∀ a b, (f a b < 0 ↔ a.1 < b.1) ∧ (f a b = 0 ↔ a.1 = b.1)) (bC : Boxed w0 BC 54 (.func (.func c) #[] #[])) (bP : Boxed w0 BP 29 vp) (bQ : Boxed w0 BQ 29 vq) (bF : Boxed w0 BF 4 (.bool both))
    (xC : ¬ X BC) (zC : ¬ Z BC) (xF : ¬ X BF) (zF : ¬ Z BF) (hZ : ∀ b, Z b → b < w0.heap.size)
    (hok : ∀ W, Later w0 W → SqOk (upb W.heap.size) Z (I 0) (I 1) ⟨vp, p⟩ ∧ SqOk (upb W.heap.size) Z (I 1) (I 2) ⟨vq, q⟩) (hI : ∀ i U V, I i U → Chg (fun b => w0.heap.size ≤ b ∨ X b) U V → I i V) (h0 : I 0 w0)
    (hxp : p.length ≤ 8796093022080) (hxq : q.length ≤ 8796093022080) :
    SeqZ X Z 89 #[.pointer (some ⟨BC, 0, none⟩), .pointer (some ⟨BP, 0, none⟩), .pointer (some ⟨BQ, 0, none⟩), .pointer (some ⟨BF, 0, none⟩)] (splitL both p q) (fun _ V => I 2 V) w0 := by
  intro n l J Jx W hW hJ hJx hJz hJxz hY hJ0
  refine callsIn_wide.2 ?_
  show Calls Try.prog 89 #[.func (.yield l) #[] #[], .pointer (some ⟨BC, 0, none⟩), .pointer (some ⟨BP, 0, none⟩), .pointer (some ⟨BQ, 0, none⟩), .pointer (some ⟨BF, 0, none⟩)] W _
  obtain ⟨xs, hxs⟩ : ∃ xs, splitL both p q = xs := ⟨_, rfl⟩
  rw [hxs] at hY ⊢
  have hsW : w0.heap.size ≤ W.heap.size := hW.size
  have hfp := (hok w0 (Later.refl _)).1.form
  have hfq := (hok w0 (Later.refl _)).2.form
  dsimp only at hfp hfq
  have la0 : Later W (W.alloc (.cells #[.func (.yield l) #[] #[]] 45)) := (Later.refl W).alloc _
  have la : Later W ((W.alloc (.cells #[.func (.yield l) #[] #[]] 45)).alloc (.cells #[vp, vq] 29)) := ((Later.refl W).alloc _).alloc _
  have l1 := hW.next la
  have l0 := hW.next la0
  have bY : Boxed ((W.alloc (.cells #[.func (.yield l) #[] #[]] 45)).alloc (.cells #[vp, vq] 29)) W.heap.size 45 (.func (.yield l) #[] #[]) := (Boxed.new W 45 (.func (.yield l) #[] #[])).alloc _
  have hs1 : ((W.alloc (.cells #[.func (.yield l) #[] #[]] 45)).alloc (.cells #[vp, vq] 29)).heap.size = W.heap.size + 2 := by rw [World.size_alloc, World.size_alloc]
  have hr := two_new (W.alloc (.cells #[.func (.yield l) #[] #[]] 45)) vp vq 29
  rw [World.size_alloc] at hr
  have cC := (bC.kept l0.grown (fun e => by cases e)).cell
  have cP := (bP.kept l0.grown (fun e => by cases e)).cell
  have cQ := (bQ.kept l0.grown (fun e => by cases e)).cell
  have hBC := bC.lt
  have hBF := bF.lt
  have main : ∀ W1, ((W.alloc (.cells #[.func (.yield l) #[] #[]] 45)).alloc (.cells #[vp, vq] 29)) = W1 → Calls Try.prog 79 #[.slice (some ⟨W.heap.size + 1, 0, none⟩) 2 2, .func (.func 90) #[] #[.pointer (some ⟨BC, 0, none⟩), .pointer (some ⟨BF, 0, none⟩), .pointer (some ⟨W.heap.size, 0, none⟩)]] W1 fun e U => (∃ v, e = .returned v) ∧ ∃ hi, W1.heap.size ≤ hi ∧ ((J hi xs U ∧ I 2 U) ∨ ∃ pre, pre <+: xs ∧ Jx hi pre U ∧ I 2 U) := by
    intro W1 hW1
    rw [hW1] at la l1 bY hs1 hr
    clear cC cP cQ
    have hok1 := hok W1 l1
    refine sides_any (ss := [⟨vp, p⟩, ⟨vq, q⟩]) (Z := Z) (I := I) (Q := fun hi U => (J hi xs U ∧ I 2 U) ∨ ∃ pre, pre <+: xs ∧ Jx hi pre U ∧ I 2 U) (fun i s hs => ?_) (Nat.le_refl _) (by simp) (fun i s hs => ?_) (fun i U V h c => hI i U V h (c.mono fun b hb => .inl (by have : W1.heap.size ≤ b := hb; omega)))
      (hI 0 _ _ h0 l1.chg) (fun b hb => by have := hZ b hb; omega) (fun i s hs => ?_) enters90 ?_ ?_
    · refine ⟨W.heap.size + 1, 0, rfl, ?_, fun h => by have := hZ _ h; omega⟩
      match i, hs with
      | 0, hs => cases hs; exact hr.1
      | 1, hs => cases hs; exact hr.2
      | i + 2, hs => simp at hs
    · match i, hs with
      | 0, hs => cases hs; exact hok1.1
      | 1, hs => cases hs; exact hok1.2
      | i + 2, hs => simp at hs
    · match i, hs with
      | 0, hs => cases hs; exact hxp
      | 1, hs => cases hs; exact hxq
      | i + 2, hs => simp at hs
    · intro hi U V h cg
      have c1 : Chg (fun b => Z b ∨ priv W.heap.size hi b) U V := cg.mono fun b hb => .inr ⟨by have := hb.1; omega, hb.2⟩
      have c2 : Chg (fun b => w0.heap.size ≤ b ∨ X b) U V := cg.mono fun b hb => .inl (by have := hb.1; omega)
      rcases h with ⟨h1, h2⟩ | ⟨pre, hp, h1, h2⟩
      · exact .inl ⟨hJz _ _ _ _ h1 c1, hI _ _ _ h2 c2⟩
      · exact .inr ⟨pre, hp, hJxz _ _ _ _ h1 c1, hI _ _ _ h2 c2⟩
    · intro V Ds pv hIn hch hS hown
      obtain ⟨A', cp, rfl⟩ := row_any hown
      have hap := sides_apart hS hown
      have hVs := hch.size
      have hln : Ds.length = 2 := by rw [hS.len]; rfl
      obtain ⟨Dp, Dq, rfl⟩ : ∃ Dp Dq, Ds = [Dp, Dq] := by
        match Ds, hln with
        | [a, b], _ => exact ⟨a, b, rfl⟩
      have bCV : Boxed V BC 54 (.func (.func c) #[] #[]) := boxed_turn (bC.kept l1.grown (fun e => by cases e)) hch (fun h => h.elim zC (fun h => by omega))
      have bFV : Boxed V BF 4 (.bool both) := boxed_turn (bF.kept l1.grown (fun e => by cases e)) hch (fun h => h.elim zF (fun h => by omega))
      have bYV : Boxed V W.heap.size 45 (.func (.yield l) #[] #[]) := boxed_turn bY hch (fun h => h.elim (fun h => by have := hZ _ h; omega) (fun h => by omega))
      have hj : J V.heap.size [] V := hJ0 V.heap.size V ((la.chg).trans (hch.mono fun b h => h.imp id fun h => by omega)) (by omega) (Nat.le_refl _)
      refine (part_any (lo0 := W.heap.size) (lo := W1.heap.size) (hi := V.heap.size) (X := X) (J := J V.heap.size) (Jx := Jx V.heap.size) (xs := xs) (p := p) (q := q) hc hf bCV bFV bYV xC xF (by omega) (by omega) ⟨Nat.le_refl _, by omega⟩ hVs (Nat.le_refl _) (hS.b hap) hown
        (hJ _) (fun s A B h cg => hJz _ _ _ _ h (cg.mono fun b hb => .inr hb)) (fun m pre x W2 h1 h2 => hY V.heap.size m pre x W2 (by omega) h1 h2) hj hxs.symm (by omega)).mono ?_
      rintro e U ⟨hv, hq, cU⟩
      have hIU : I 2 U := hI _ _ _ hIn (cU.mono fun b hb => hb.elim (fun hb => .inl (by have := hS.ge b hb; omega)) (fun hb => .inr hb.1))
      refine ⟨hv, ?_, fun b h1 h2 h3 => cU.block b h2 (fun h => h.elim h3 (fun h => h.2 ⟨by omega, h2⟩))⟩
      rcases hq with h1 | ⟨pre, hp, h1⟩
      · exact .inl ⟨h1, hIU⟩
      · exact .inr ⟨pre, hp, h1, hIU⟩
  clear hY hJ0 hJ hJx hJz hJxz hok hI h0 hr bP bQ
  rcases hfp with rfl | ⟨gp, lp, rfl⟩ <;> rcases hfq with rfl | ⟨gq, lq, rfl⟩
  all_goals
    go_enter Try.func89, Try.ntmps89
    go_wp2_with fail
    rw [eqF54]
    go_wp2_with fail
    go_at_call 79; refine (main _ rfl).mono ?_; rintro e U ⟨⟨v, rfl⟩, hi, hhi, hq⟩
    clear main cC cP cQ
    go_wp2_with fail
    go_end0
    refine ⟨⟨_, rfl⟩, hi, by omega, ?_⟩
    rcases hq with ⟨h1, h2⟩ | ⟨pre, hp, h1, h2⟩
    · exact .inl ⟨h1, h2⟩
    · exact .inr ⟨pre, hp, h1, h2⟩
end Go.Proofs.Yteledidnhjioaaa.Sh
namespace Go.Proofs.Yteledidnhjioaaa.Sh
open Go.RowKit Go.Lib Go.Proofs Go.Shelf
set_option linter.unusedVariables false
set_option linter.unusedSimpArgs false
/-! ### three lists as sequences that count in one block of nine -/
theorem SeqW.keep {X Z : Nat → Prop} {g : Nat} {lb : Array Value} {xs : List (Int × Int)} {G G' : Nat → World → Prop} {w0 : World} {K : World → Prop} (h : SeqW X Z g lb xs G w0) (hK : ∀ A V, K A → Chg (fun b => X b ∨ Z b ∨ w0.heap.size ≤ b) A V → K V) (h0 : K w0) (hG : ∀ k V, k ≤ xs.length → G k V → K V → G' k V) : SeqW X Z g lb xs G' w0 := by
  intro n l J Jx W hW hJ hJx hJz hJxz hY hj
  have up : ∀ {A B : World} {row : Option Nat}, A.grownBy B row → (∀ r, row = some r → W.heap.size ≤ r ∧ ∃ o : Obj, A.heap[r]? = some o ∧ o.isWalk = true) → Chg (fun b => X b ∨ Z b ∨ w0.heap.size ≤ b) A B := fun hg hr => (chg_grown hg).mono fun b hb => .inr (.inr (by have h1 := (hr b hb).1; have h2 := hW.size; omega))
  refine (h n l (fun s V => J s V ∧ K V) (fun s V => Jx s V ∧ K V) W hW (fun s A B row hs hg hr => ⟨hJ s A B row hs.1 hg hr, hK _ _ hs.2 (up hg hr)⟩) (fun s A B row hs hg hr => ⟨hJx s A B row hs.1 hg hr, hK _ _ hs.2 (up hg hr)⟩)
    (fun s A B hs c => ⟨hJz s A B hs.1 c, hK _ _ hs.2 (c.mono fun b hb => .inr (.inl hb))⟩) (fun s A B hs c => ⟨hJxz s A B hs.1 c, hK _ _ hs.2 (c.mono fun b hb => .inr (.inl hb))⟩) ?_ ⟨hj, hK _ _ h0 hW.chg⟩).mono ?_
  · intro m pre x W1 hj1 hlt
    refine YieldAt.mono (hY m pre x W1 hj1.1 hlt) ?_
    rintro e V (⟨h1, h2, h3⟩ | ⟨h1, h2, h3⟩)
    · exact .inl ⟨h1, ⟨h2, hK _ _ hj1.2 (h3.mono fun b hb => .inl hb)⟩, h3⟩
    · exact .inr ⟨h1, ⟨h2, hK _ _ hj1.2 (h3.mono fun b hb => .inl hb)⟩, h3⟩
  · rintro e V ⟨hv, (⟨h1, h2⟩ | ⟨pre, hp, h1, h2⟩)⟩
    · exact ⟨hv, .inl ⟨h1.1, hG _ _ (Nat.le_refl _) h2 h1.2⟩⟩
    · exact ⟨hv, .inr ⟨pre, hp, h1.1, hG _ _ hp.length_le h2 h1.2⟩⟩
/-- the block of the counts: a round begun and ended n times -/
def Sn (W : World) (SN n1 n2 n3 : Nat) : Prop :=
  ∃ c1 c2 c3 : Int, (0 ≤ c1 ∧ c1 ≤ 8796093022080 * (n1 : Int)) ∧ (0 ≤ c2 ∧ c2 ≤ 8796093022080 * (n2 : Int)) ∧ (0 ≤ c3 ∧ c3 ≤ 8796093022080 * (n3 : Int)) ∧
    W.heap[SN]? = some (.cells #[.int .i64 n1, .int .i64 n1, .int .i64 c1, .int .i64 n2, .int .i64 n2, .int .i64 c2, .int .i64 n3, .int .i64 n3, .int .i64 c3] 82 (0, 0))
theorem Sn.lt {W : World} {SN n1 n2 n3 : Nat} (h : Sn W SN n1 n2 n3) : SN < W.heap.size := by obtain ⟨_, _, _, _, _, _, h⟩ := h; exact (Array.getElem?_eq_some_iff.1 h).1
theorem Sn.chg {X : Nat → Prop} {W V : World} {SN n1 n2 n3 : Nat} (h : Sn W SN n1 n2 n3) (c : Chg X W V) (hx : ¬ X SN) : Sn V SN n1 n2 n3 := by
  have hl := h.lt
  obtain ⟨c1, c2, c3, h1, h2, h3, h4⟩ := h
  exact ⟨c1, c2, c3, h1, h2, h3, (c.block SN hl hx).trans h4⟩
/-- everything else lies as it lay in W8 -/
def Mg (W8 : World) (SN n1 n2 n3 : Nat) (V : World) : Prop := Sn V SN n1 n2 n3 ∧ Chg (fun b => b = SN ∨ W8.heap.size ≤ b) W8 V
theorem Mg.chg {W8 : World} {SN n1 n2 n3 : Nat} {A V : World} {X : Nat → Prop} (h : Mg W8 SN n1 n2 n3 A) (c : Chg X A V) (hx : ∀ b, X b → W8.heap.size ≤ b) (hs : SN < W8.heap.size) : Mg W8 SN n1 n2 n3 V :=
  ⟨h.1.chg c (fun e => by have := hx _ e; omega), h.2.trans (c.mono fun b hb => .inr (hx b hb))⟩
/-- one of the lists -/
structure Li (W8 : World) (SN o BL BP : Nat) (l : List (Int × Int)) (A : Option Addr) (cap : Nat) : Prop where
  sl : SliceAt W8 A cap l
  bl : Boxed W8 BL 22 (.slice A l.length cap)
  bp : Boxed W8 BP 31 (.pointer (some ⟨SN, o, none⟩))
  ne : ∀ f o, A = some ⟨f, o, none⟩ → l ≠ [] → f ≠ SN
  z : l.length ≤ 8796093022080
theorem SliceAt.block {W : World} {A : Option Addr} {cap : Nat} {l : List (Int × Int)} (h : SliceAt W A cap l) : ∀ f o, A = some ⟨f, o, none⟩ → l ≠ [] → f < W.heap.size := by
  intro f o e h0
  obtain ⟨x, hx⟩ : ∃ x, l[0]? = some x := ⟨_, List.getElem?_eq_getElem (List.length_pos_iff.2 h0)⟩
  obtain ⟨b, o', e', c0, _⟩ := h.2.2 0 x hx
  rw [e] at e'; injection e' with e'; injection e' with e1 _ _
  rw [e1]; exact cell_lt c0
section
variable {W8 : World} {SN o BL BP cap : Nat} {l : List (Int × Int)} {A : Option Addr}
theorem Li.ltN (h : Li W8 SN o BL BP l A cap) (hs : Sn W8 SN 0 0 0) : BL ≠ SN ∧ BP ≠ SN := by
  obtain ⟨_, _, _, _, _, _, k⟩ := hs
  refine ⟨fun e => ?_, fun e => ?_⟩
  · have h1 : W8.heap[BL]? = _ := h.bl
    rw [e, k] at h1; cases h1
  · have h1 : W8.heap[BP]? = _ := h.bp
    rw [e, k] at h1; cases h1
theorem Li.raw (h : Li W8 SN o BL BP l A cap) (hs : Sn W8 SN 0 0 0) {V : World} (hV : Chg (fun b => b = SN ∨ W8.heap.size ≤ b) W8 V) {cs : Array Value} {a b : Nat} {c : Int} (hso : SeenO 82 o cs V SN a b c) (ha : a ≤ 1000) (hb : b ≤ 1000) (hc : 0 ≤ c ∧ c ≤ 1000000000000000) (X : Nat → Prop) (hX : ∀ b, X b → W8.heap.size ≤ b) :
    SeqW X (only SN) 55 #[.pointer (some ⟨BP, 0, none⟩), .pointer (some ⟨BL, 0, none⟩)] l (fun k U => SeenO 82 o cs U SN (a + 1) (b + 1) (c + k)) V := by
  have hn := h.ltN hs
  have hlL := h.bl.lt
  have hlP := h.bp.lt
  have hsl : SliceAt V A cap l := slice_keep h.sl hV (fun f o e h0 hx => hx.elim (fun hx => h.ne f o e h0 hx) (fun hx => by have := h.sl.block f o e h0; omega))
  exact list_seq_o hsl (boxed_turn h.bl hV (fun e => e.elim hn.1 (fun e => by omega))) (boxed_turn h.bp hV (fun e => e.elim hn.2 (fun e => by omega))) hso (by decide) (fun e => by have := hX _ e; omega) (fun e => by have := hX _ e; omega) (fun e => by have := hX _ e; have := hs.lt; omega)
    (fun f o e h0 _ => ⟨fun hx => by have := hX _ hx; have := h.sl.block f o e h0; omega, h.ne f o e h0⟩) (by omega) (by omega) hc (by have := h.z; omega)
end
theorem mg_keep {W8 W : World} {SN : Nat} {X : Nat → Prop} (hX : ∀ b, X b → W8.heap.size ≤ b) (hs : W8.heap.size ≤ W.heap.size) : ∀ A V, Chg (fun b => b = SN ∨ W8.heap.size ≤ b) W8 A → Chg (fun b => X b ∨ only SN b ∨ W.heap.size ≤ b) A V → Chg (fun b => b = SN ∨ W8.heap.size ≤ b) W8 V :=
  fun A V h c => h.trans (c.mono fun b hb => hb.elim (fun hb => .inr (hX b hb)) (fun hb => hb.elim .inl (fun hb => .inr (by omega))))
theorem seq_p {W8 : World} {SN BL BP cap n1 n2 n3 : Nat} {l : List (Int × Int)} {A : Option Addr} (h : Li W8 SN 0 BL BP l A cap) (hs : Sn W8 SN 0 0 0) {V : World} (hV : Mg W8 SN n1 n2 n3 V) (hn : n1 ≤ 100) (X : Nat → Prop) (hX : ∀ b, X b → W8.heap.size ≤ b) :
    SeqW X (only SN) 55 #[.pointer (some ⟨BP, 0, none⟩), .pointer (some ⟨BL, 0, none⟩)] l (fun _ => Mg W8 SN (n1 + 1) n2 n3) V := by
  obtain ⟨⟨c1, c2, c3, h1, h2, h3, h4⟩, hc⟩ := hV
  refine SeqW.keep (h.raw hs hc (cs := #[.int .i64 n1, .int .i64 n1, .int .i64 c1, .int .i64 n2, .int .i64 n2, .int .i64 c2, .int .i64 n3, .int .i64 n3, .int .i64 c3]) (a := n1) (b := n1) (c := c1) ⟨h4, by simp⟩ (by omega) (by omega) (by omega) X hX) (mg_keep hX hc.size) hc (fun k U hk hg hu => ⟨⟨c1 + k, c2, c3, ?_, h2, h3, hg.1⟩, hu⟩)
  have := h.z
  omega
theorem seq_q {W8 : World} {SN BL BP cap n1 n2 n3 : Nat} {l : List (Int × Int)} {A : Option Addr} (h : Li W8 SN 3 BL BP l A cap) (hs : Sn W8 SN 0 0 0) {V : World} (hV : Mg W8 SN n1 n2 n3 V) (hn : n2 ≤ 100) (X : Nat → Prop) (hX : ∀ b, X b → W8.heap.size ≤ b) :
    SeqW X (only SN) 55 #[.pointer (some ⟨BP, 0, none⟩), .pointer (some ⟨BL, 0, none⟩)] l (fun _ => Mg W8 SN n1 (n2 + 1) n3) V := by
  obtain ⟨⟨c1, c2, c3, h1, h2, h3, h4⟩, hc⟩ := hV
  refine SeqW.keep (h.raw hs hc (cs := #[.int .i64 n1, .int .i64 n1, .int .i64 c1, .int .i64 n2, .int .i64 n2, .int .i64 c2, .int .i64 n3, .int .i64 n3, .int .i64 c3]) (a := n2) (b := n2) (c := c2) ⟨h4, by simp⟩ (by omega) (by omega) (by omega) X hX) (mg_keep hX hc.size) hc (fun k U hk hg hu => ⟨⟨c1, c2 + k, c3, h1, ?_, h3, hg.1⟩, hu⟩)
  have := h.z
  omega
theorem seq_r {W8 : World} {SN BL BP cap n1 n2 n3 : Nat} {l : List (Int × Int)} {A : Option Addr} (h : Li W8 SN 6 BL BP l A cap) (hs : Sn W8 SN 0 0 0) {V : World} (hV : Mg W8 SN n1 n2 n3 V) (hn : n3 ≤ 100) (X : Nat → Prop) (hX : ∀ b, X b → W8.heap.size ≤ b) :
    SeqW X (only SN) 55 #[.pointer (some ⟨BP, 0, none⟩), .pointer (some ⟨BL, 0, none⟩)] l (fun _ => Mg W8 SN n1 n2 (n3 + 1)) V := by
  obtain ⟨⟨c1, c2, c3, h1, h2, h3, h4⟩, hc⟩ := hV
  refine SeqW.keep (h.raw hs hc (cs := #[.int .i64 n1, .int .i64 n1, .int .i64 c1, .int .i64 n2, .int .i64 n2, .int .i64 c2, .int .i64 n3, .int .i64 n3, .int .i64 c3]) (a := n3) (b := n3) (c := c3) ⟨h4, by simp⟩ (by omega) (by omega) (by omega) X hX) (mg_keep hX hc.size) hc (fun k U hk hg hu => ⟨⟨c1, c2, c3 + k, h1, h2, ?_, hg.1⟩, hu⟩)
  have := h.z
  omega
end Go.Proofs.Yteledidnhjioaaa.Sh
namespace Go.Proofs.Yteledidnhjioaaa.Sh
open Go.RowKit Go.Lib Go.Proofs Go.Shelf
set_option linter.unusedVariables false
set_option linter.unusedSimpArgs false
/-! ### ShelfMerges: Join, Meet and Without of three lists, told and gathered -/
theorem signR : ∀ a b : Int × Int, (cmpR a b < 0 ↔ a.1 < b.1) ∧ (cmpR a b = 0 ↔ a.1 = b.1) := fun a b => ⟨cmpR_lt a b, cmpR_eq a b⟩
theorem signK : ∀ a b : Int × Int, (cmpK a b < 0 ↔ a.1 < b.1) ∧ (cmpK a b = 0 ↔ a.1 = b.1) := fun a b => ⟨cmpK_lt a b, cmpK_eq a b⟩
def stepsJ (W8 : World) (SN n1 n2 n3 : Nat) : Nat → World → Prop
  | 0 => Mg W8 SN n1 n2 n3
  | 1 => Mg W8 SN (n1 + 1) n2 n3
  | 2 => Mg W8 SN (n1 + 1) n2 n3
  | 3 => Mg W8 SN (n1 + 1) (n2 + 1) n3
  | _ => Mg W8 SN (n1 + 1) (n2 + 1) (n3 + 1)
def stepsS (W8 : World) (SN n1 n2 n3 : Nat) : Nat → World → Prop
  | 0 => Mg W8 SN n1 n2 n3
  | 1 => Mg W8 SN (n1 + 1) n2 n3
  | _ => Mg W8 SN (n1 + 1) (n2 + 1) n3
theorem join4 (x y z : List (Int × Int)) : joinR [x, [], y, z] = joinR [x, y, z] := by simp [joinR]
theorem split_both {x y : List (Int × Int)} (hx : RisesR x) (hy : RisesR y) : splitL true x y = x.filter fun e => hasL cmpR e y := by
  rw [split_filter true x y hx hy]
  congr 1
  funext e
  rw [hasL_hasK]
  simp
theorem split_rest {x y : List (Int × Int)} (hx : RisesR x) (hy : RisesR y) : splitL false x y = x.filter fun e => !hasL cmpR e y := by
  rw [split_filter false x y hx hy]
  congr 1
  funext e
  rw [hasL_hasK]
  simp
structure Mx (W8 : World) (SN : Nat) (x y z : List (Int × Int)) (Lp Pp Lq Pq Lr Pr : Nat) : Prop where
  hs : Sn W8 SN 0 0 0
  p : ∃ A cap, Li W8 SN 0 Lp Pp x A cap
  q : ∃ A cap, Li W8 SN 3 Lq Pq y A cap
  r : ∃ A cap, Li W8 SN 6 Lr Pr z A cap
  hx : RisesR x
  hy : RisesR y
  hz : RisesR z
theorem boxed_ne {W : World} {SN B : Nat} {t : TypeId} {v : Value} (hs : Sn W SN 0 0 0) (h : Boxed W B t v) (ht : t ≠ 82) : B ≠ SN := fun e => by
  obtain ⟨_, _, _, _, _, _, k⟩ := hs
  have h1 : W.heap[B]? = _ := h
  rw [e, k] at h1
  injection h1 with h1
  injection h1 with _ h1 _
  exact ht h1.symm
section
variable {W8 : World} {SN Lp Pp Lq Pq Lr Pr n1 n2 n3 : Nat} {x y z : List (Int × Int)}
theorem mg_box {B : Nat} {t : TypeId} {v : Value} {V : World} (hs : Sn W8 SN 0 0 0) (hV : Mg W8 SN n1 n2 n3 V) (h : Boxed W8 B t v) (ht : t ≠ 82) : Boxed V B t v :=
  boxed_turn h hV.2 (fun e => e.elim (boxed_ne hs h ht) (fun e => by have := h.lt; omega))
theorem mg_slice {V : World} {A : Option Addr} {cap : Nat} {l : List (Int × Int)} (hV : Mg W8 SN n1 n2 n3 V) (h : SliceAt W8 A cap l) (hn : ∀ f o, A = some ⟨f, o, none⟩ → l ≠ [] → f ≠ SN) : SliceAt V A cap l :=
  slice_keep h hV.2 (fun f o e h0 hx => hx.elim (fun hx => hn f o e h0 hx) (fun hx => by have := h.block f o e h0; omega))
theorem join_m (M : Mx W8 SN x y z Lp Pp Lq Pq Lr Pr) {J0 J1 g cp : Nat} (bC : Boxed W8 J0 54 (.func (.func 45) #[] #[])) (bL : Boxed W8 J1 110 (.slice (some ⟨g, 0, none⟩) 4 cp)) (hcp : 4 ≤ cp) (hg : g ≠ SN)
    (h0 : W8.cell? ⟨g, 0, none⟩ = some (listV Pp Lp) ∧ W8.cell? ⟨g, 1, none⟩ = some .nilFunc ∧ W8.cell? ⟨g, 2, none⟩ = some (listV Pq Lq) ∧ W8.cell? ⟨g, 3, none⟩ = some (listV Pr Lr)) {V : World} (hV : Mg W8 SN n1 n2 n3 V) (hn : n1 ≤ 100 ∧ n2 ≤ 100 ∧ n3 ≤ 100) :
    SeqZ (fresh V) (only SN) 78 #[.pointer (some ⟨J0, 0, none⟩), .pointer (some ⟨J1, 0, none⟩)] (joinR [x, y, z]) (fun _ => Mg W8 SN (n1 + 1) (n2 + 1) (n3 + 1)) V := by
  obtain ⟨Ap, cp1, hp⟩ := M.p
  obtain ⟨Aq, cq1, hq⟩ := M.q
  obtain ⟨Ar, cr1, hr⟩ := M.r
  have hz1 := hp.z
  have hz2 := hq.z
  have hz3 := hr.z
  have hSN := M.hs.lt
  have hVs := hV.2.size
  have hgl := cell_lt h0.1
  have hcell : ∀ {o : Nat} {v : Value}, W8.cell? ⟨g, o, none⟩ = some v → V.cell? ⟨g, o, none⟩ = some v := fun h => hV.2.cell h (fun e => e.elim hg (fun e => by omega))
  have hfl : ([x, [], y, z] : List (List (Int × Int))).flatten.length ≤ 26388279066240 := by simp; omega
  have hm := merge_join (n := 26388279066240) (ls := [x, [], y, z]) (fun l hl => by
    simp only [List.mem_cons, List.not_mem_nil, or_false] at hl
    rcases hl with rfl | rfl | rfl | rfl
    · exact M.hx
    · exact List.Pairwise.nil
    · exact M.hy
    · exact M.hz) hfl
  rw [join4] at hm
  rw [← hm]
  have h := joins_seq (c := 45) (N := 26388279066240) (BC := J0) (BL := J1) (cap := cp) (f := cmpR) (ss := [⟨listV Pp Lp, x⟩, ⟨.nilFunc, []⟩, ⟨listV Pq Lq, y⟩, ⟨listV Pr Lr, z⟩]) (X := fresh V) (Z := only SN) (I := stepsJ W8 SN n1 n2 n3) (w0 := V) (A := some ⟨g, 0, none⟩)
    compR signR (mg_box M.hs hV bC (by decide)) (mg_box M.hs hV bL (by decide)) (fun i s hi => ?_) hcp (by simp) (fun e => by have := bC.lt; have : V.heap.size ≤ J0 := e; omega) (fun e => boxed_ne M.hs bC (by decide) e) (fun b e => by have : b = SN := e; have := hV.1.lt; omega)
    (fun W hW i s hi => ?_) (fun i U V' h c => ?_) hV (fun i s hi => ?_) hfl (Nat.le_trans hfl (by decide))
  · exact h
  · refine ⟨g, 0, rfl, ?_, fun e => hg e⟩
    match i, hi with
    | 0, hi => cases hi; exact hcell h0.1
    | 1, hi => cases hi; exact hcell h0.2.1
    | 2, hi => cases hi; exact hcell h0.2.2.1
    | 3, hi => cases hi; exact hcell h0.2.2.2
    | i + 4, hi => simp at hi
  · have hWs := hW.size
    have hX : ∀ b, upb W.heap.size b → W8.heap.size ≤ b := fun b e => by have : W.heap.size ≤ b := e; omega
    match i, hi with
    | 0, hi => cases hi; exact .inr ⟨55, _, rfl, enters55, fun U hU => (seq_p hp M.hs hU hn.1 _ hX).z⟩
    | 1, hi => cases hi; exact .inl ⟨rfl, rfl, fun U hU => hU⟩
    | 2, hi => cases hi; exact .inr ⟨55, _, rfl, enters55, fun U hU => (seq_q hq M.hs hU hn.2.1 _ hX).z⟩
    | 3, hi => cases hi; exact .inr ⟨55, _, rfl, enters55, fun U hU => (seq_r hr M.hs hU hn.2.2 _ hX).z⟩
    | i + 4, hi => simp at hi
  · have hx : ∀ b, (V.heap.size ≤ b ∨ fresh V b) → W8.heap.size ≤ b := fun b e => e.elim (fun e => by omega) (fun e => by have : V.heap.size ≤ b := e; omega)
    match i, h with
    | 0, h => exact Mg.chg h c hx hSN
    | 1, h => exact Mg.chg h c hx hSN
    | 2, h => exact Mg.chg h c hx hSN
    | 3, h => exact Mg.chg h c hx hSN
    | i + 4, h => exact Mg.chg h c hx hSN
  · match i, hi with
    | 0, hi => cases hi; exact hz1
    | 1, hi => cases hi; exact Nat.zero_le _
    | 2, hi => cases hi; exact hz2
    | 3, hi => cases hi; exact hz3
    | i + 4, hi => simp at hi
theorem split_m (M : Mx W8 SN x y z Lp Pp Lq Pq Lr Pr) {both : Bool} {B : Nat} (hB : SplitAt W8 B (.func (.func 45) #[] #[]) (listV Pp Lp) (listV Pq Lq) both) {V : World} (hV : Mg W8 SN n1 n2 n3 V) (hn : n1 ≤ 100 ∧ n2 ≤ 100) :
    SeqZ (fresh V) (only SN) 89 #[.pointer (some ⟨B, 0, none⟩), .pointer (some ⟨B + 1, 0, none⟩), .pointer (some ⟨B + 1 + 1, 0, none⟩), .pointer (some ⟨B + 1 + 1 + 1, 0, none⟩)] (splitL both x y) (fun _ => Mg W8 SN (n1 + 1) (n2 + 1) n3) V := by
  obtain ⟨Ap, cp1, hp⟩ := M.p
  obtain ⟨Aq, cq1, hq⟩ := M.q
  obtain ⟨⟨⟨b0, b1⟩, b2⟩, b3⟩ := hB
  have hSN := M.hs.lt
  have hVs := hV.2.size
  have l0 := b0.lt
  have l3 := b3.lt
  have h := splits_seq (c := 45) (BC := B) (BP := B + 1) (BQ := B + 1 + 1) (BF := B + 1 + 1 + 1) (both := both) (f := cmpR) (vp := listV Pp Lp) (vq := listV Pq Lq) (p := x) (q := y) (X := fresh V) (Z := only SN) (I := stepsS W8 SN n1 n2 n3) (w0 := V)
    compR signR (mg_box M.hs hV b0 (by decide)) (mg_box M.hs hV b1 (by decide)) (mg_box M.hs hV b2 (by decide)) (mg_box M.hs hV b3 (by decide)) (fun e => by have : V.heap.size ≤ B := e; omega) (fun e => boxed_ne M.hs b0 (by decide) e) (fun e => by have : V.heap.size ≤ B + 1 + 1 + 1 := e; omega) (fun e => boxed_ne M.hs b3 (by decide) e)
    (fun b e => by have : b = SN := e; have := hV.1.lt; omega) (fun W hW => ?_) (fun i U V' h c => ?_) hV hp.z hq.z
  · exact h
  · have hWs := hW.size
    have hX : ∀ b, upb W.heap.size b → W8.heap.size ≤ b := fun b e => by have : W.heap.size ≤ b := e; omega
    exact ⟨.inr ⟨55, _, rfl, enters55, fun U hU => (seq_p hp M.hs hU hn.1 _ hX).z⟩, .inr ⟨55, _, rfl, enters55, fun U hU => (seq_q hq M.hs hU hn.2 _ hX).z⟩⟩
  · have hx : ∀ b, (V.heap.size ≤ b ∨ fresh V b) → W8.heap.size ≤ b := fun b e => e.elim (fun e => by omega) (fun e => by have : V.heap.size ≤ b := e; omega)
    match i, h with
    | 0, h => exact Mg.chg h c hx hSN
    | 1, h => exact Mg.chg h c hx hSN
    | i + 2, h => exact Mg.chg h c hx hSN
theorem told_m {g : Nat} {lb : Array Value} {xs : List (Int × Int)} {m1 m2 m3 : Nat} {V : World} {A : Option Addr} {cap : Nat} (hs : Sn W8 SN 0 0 0) (hV : Mg W8 SN n1 n2 n3 V) (h : SeqZ (fresh V) (only SN) g lb xs (fun _ => Mg W8 SN m1 m2 m3) V) (hg : ∀ args w, (callFunc g args).run Try.prog w = .ok (.enter g args) w)
    (hw : SliceAt W8 A cap xs) (hne : ∀ f o, A = some ⟨f, o, none⟩ → xs ≠ [] → f ≠ SN) (hz : xs.length ≤ 4611686018427387904) :
    Calls Try.prog 25 #[.func (.func g) #[] lb, .slice A xs.length cap] V fun e U => e = .returned (.bool true) ∧ Mg W8 SN m1 m2 m3 U := by
  have hVs := hV.2.size
  refine (told_z h hg (mg_slice hV hw hne) (fun b o e h0 hx => hne b o e h0 hx) (fun b e => by have : b = SN := e; have := hV.1.lt; omega) (fun k A' V' hA c => Mg.chg hA c (fun b e => by have : V.heap.size ≤ b := e; omega) hs.lt) hz).mono ?_
  rintro e U ⟨rfl, _, k, hk⟩
  exact ⟨by simp, hk⟩
theorem gathered_m {g : Nat} {lb : Array Value} {xs : List (Int × Int)} {m1 m2 m3 : Nat} {V : World} (m : Nat) (hs : Sn W8 SN 0 0 0) (hV : Mg W8 SN n1 n2 n3 V) (h : SeqZ (fresh V) (only SN) g lb xs (fun _ => Mg W8 SN m1 m2 m3) V) (hg : ∀ args w, (callFunc g args).run Try.prog w = .ok (.enter g args) w) (hz : xs.length ≤ 8796093022200) :
    Calls Try.prog 18 #[.func (.func g) #[] lb, .int .i64 m] V fun e U => ∃ v, e = .returned v ∧ U.ownsRow V.heap.size 27 2 v (xs.take m).length (flat (xs.take m)) ∧ Mg W8 SN m1 m2 m3 U := by
  have hVs := hV.2.size
  refine (gathered_z m h hg (fun b e => by have : b = SN := e; have := hV.1.lt; omega) (fun k A' V' hA c => Mg.chg hA c (fun b e => by have : V.heap.size ≤ b := e; omega) hs.lt) hz).mono ?_
  rintro e U ⟨v, rfl, h1, _, k, hk⟩
  exact ⟨v, rfl, h1, hk⟩
end
end Go.Proofs.Yteledidnhjioaaa.Sh
