import Derived.Test.YteledidnhjioaaaSiK
import Derived.Test.YteledidnhjioaaaShO
import Derived.Deep.DeepCutAuto
import Derived.Deep.CutBlock
namespace Go.Proofs.Yteledidnhjioaaa.Sh
open Go.RowKit Go.Lib Go.Proofs Go.Shelf
set_option linter.unusedVariables false
set_option linter.unusedSimpArgs false
theorem slice_keep {X : Nat → Prop} {W V : World} {A : Option Addr} {cap : Nat} {l : List (Int × Int)} (h : SliceAt W A cap l) (c : Chg X W V) (hx : ∀ f o, A = some ⟨f, o, none⟩ → l ≠ [] → ¬ X f) : SliceAt V A cap l :=
  ⟨h.1, h.2.1, fun i y hi => by
    obtain ⟨b, o, e, c0, c1⟩ := h.2.2 i y hi
    have h0 : l ≠ [] := fun e0 => by rw [e0] at hi; simp at hi
    exact ⟨b, o, e, c.cell c0 (hx b o e h0), c.cell c1 (hx b o e h0)⟩⟩
set_option maxRecDepth 100000 in
set_option maxHeartbeats 20000000 in
theorem gathers_walk {l : List (Int × Int)} (most : Int) {w : World} {A : Option Addr} {cap : Nat} (hl : SliceAt w A cap l) (hz : l.length ≤ 8796093022080) :
    Calls Try.prog 3 #[.slice A l.length cap, .int .i64 most] w fun e w' => e = .returned (.bool true) ∧ Later w w' := by
  obtain ⟨n, hn⟩ : ∃ n, l.length = n := ⟨_, rfl⟩
  have hs0 : Seen (w.alloc (.cells #[.int .i64 0, .int .i64 0, .int .i64 0] 23)) w.heap.size 0 0 0 := by show (w.heap.push _)[w.heap.size]? = _; exact Array.getElem?_push_size
  have l0 : Later w (w.alloc (.cells #[.int .i64 0, .int .i64 0, .int .i64 0] 23)) := (Later.refl w).alloc _
  have hA : ∀ f o, A = some ⟨f, o, none⟩ → l.length ≠ 0 → f < w.heap.size := fun f o e hne => by
    obtain ⟨x, hx⟩ : ∃ x, l[0]? = some x := ⟨_, List.getElem?_eq_getElem (by omega)⟩
    obtain ⟨b, o', e', c0, _⟩ := hl.2.2 0 x hx
    rw [e] at e'; injection e' with e'; injection e' with e1 _ _
    rw [e1]; exact cell_lt c0
  rw [hn]
  go_enter Try.func3, Try.ntmps3
  go_wp2_with fail
  go_at_call 13; refine list_any.mono ?_; rintro e W2 ⟨rfl, l1, b1, b2⟩
  rw [World.size_alloc] at b1 b2
  have hs2 := hs0.later l1
  have hlA : ∀ f o, A = some ⟨f, o, none⟩ → l ≠ [] → f < W2.heap.size → ¬ fresh W2 f ∧ f ≠ w.heap.size := fun f o e h0 hf => ⟨fun h => by have : W2.heap.size ≤ f := h; omega, fun h => by have := hA f o e (fun e => h0 (List.length_eq_zero_iff.1 e)); omega⟩
  rw [← hn] at b1
  have hq := list_seq (X := fresh W2) (hl.later (l0.next l1)) b1 b2 hs2 (fun h => by have : W2.heap.size ≤ _ := h; have := b1.lt; omega) (fun h => by have : W2.heap.size ≤ _ := h; have := b2.lt; omega) (fun h => by have : W2.heap.size ≤ _ := h; have := hs2.lt; omega) hlA (by decide) (by decide) (by decide) (by omega)
  have hg1 := gather_any most hq enters55 hs2.lt (fun k A V h c => h.chg c (fun h => by have : W2.heap.size ≤ _ := h; have := hs2.lt; omega)) (by omega)
  go_wp2_with fail
  go_at_call 12; refine hg1.mono ?_; rintro e W3 ⟨v1, rfl, r1, c1, s1⟩
  obtain ⟨m, hm⟩ : ∃ m : Nat, m = min most.toNat n := ⟨_, rfl⟩
  have hmn : m ≤ n := by omega
  have hnz : n ≤ 8796093022080 := by omega
  have hmc : m ≤ cap := by have := hl.1; omega
  have hbool : decide (most.toNat < l.length) = decide ((m : Int) < (n : Int)) := by rw [hn]; exact decide_eq_decide.2 (by omega)
  have htk : l.take most.toNat = l.take m := by
    rw [hm, hn.symm]
    by_cases h : most.toNat ≤ l.length
    · rw [Nat.min_eq_left h]
    · rw [Nat.min_eq_right (by omega), List.take_of_length_le (by omega), List.take_of_length_le (by omega)]
  have hlen : (l.take m).length = m := by rw [List.length_take, hn]; omega
  have hseen : min (most.toNat + 1) l.length = min (m + 1) n := by omega
  rw [hbool]
  rw [htk] at r1
  rw [hseen] at s1
  replace hm := hid hm
  replace hbool := hid hbool
  replace htk := hid htk
  replace hlen := hid hlen
  replace hseen := hid hseen
  have hn0 := hid hn
  clear hg1 hq hs0 hs2 hn
  go_upto_region 3 with fail
  go_cut [8] (fun v wx => v = .int .i64 m ∧ W3 = wx)
  case first =>
    go_wp2_with fail
    all_goals (go_meet; exact ⟨by have hm0 := hm.out; congr 1; omega, rfl⟩)
  case rest =>
    obtain ⟨rfl, rfl⟩ := hcut
    rw [hlen.out] at r1
    obtain ⟨A1, cap1, rfl, sl1, hb1⟩ := row_slice2 (l := l.take m) (by rw [hlen.out]; exact r1) (by rw [hlen.out]; omega) hlen.out
    have slm : ∀ V, SliceAt V A cap l → SliceAt V A cap (l.take m) := fun V h => ⟨by rw [hlen.out]; exact hmc, by rw [hlen.out]; omega, fun i x hx => h.2.2 i x (by rw [List.getElem?_take] at hx; split at hx <;> first | exact hx | cases hx)⟩
    have hsl3 : SliceAt W3 A cap l := slice_keep (hl.later (l0.next l1)) c1 (fun f o e h0 h => by have : f = w.heap.size := h; have := hA f o e (fun e => h0 (List.length_eq_zero_iff.1 e)); omega)
    have hsm := same_ref sl1 (slm _ hsl3)
    rw [hlen.out, decide_eq_true rfl] at hsm
    go_upto_region 4 with fail
    go_cut [7, 58] (fun v7 v wx => v = .bool false ∧ Later W3 wx)
    case first =>
      have hn1 := hn0
      by_cases hlt : m < n
      · have hd : decide ((m : Int) < (n : Int)) = true := decide_eq_true (by omega)
        have s2 : Seen W3 w.heap.size 1 1 ((m : Int) + 1) := by rw [show min (m + 1) n = m + 1 by omega] at s1; simpa using s1
        clear s1 l0 l1 hlA c1 b1 b2 slm hA
        go_wp2_with fail
        go_at_call 14; refine hsm.mono ?_; rintro e W4 ⟨rfl, l4⟩
        obtain ⟨q0, q1, q2, f0, f1, f2⟩ := (s2.later l4).cells
        go_wp2_with fail
        all_goals (go_meet; exact ⟨by simp, l4⟩)
      · obtain rfl : n = m := by omega
        have hd : decide ((n : Int) < (n : Int)) = false := decide_eq_false (by omega)
        have s2 : Seen W3 w.heap.size 1 1 (n : Int) := by rw [show min (n + 1) n = n by omega] at s1; simpa using s1
        clear s1 l0 l1 hlA c1 b1 b2 slm hA
        go_wp2_with fail
        go_at_call 14; refine hsm.mono ?_; rintro e W4 ⟨rfl, l4⟩
        obtain ⟨q0, q1, q2, f0, f1, f2⟩ := (s2.later l4).cells
        go_wp2_with fail
        all_goals (go_meet; exact ⟨by simp, l4⟩)
    case rest =>
      obtain ⟨rfl, l3⟩ := hcut
      obtain ⟨r, hr⟩ : ∃ r : Nat, min (m + 1) n = r := ⟨_, rfl⟩
      have hrz : r ≤ n := by omega
      rw [hr, show (0 : Int) + 1 = 1 from rfl, Int.zero_add] at s1
      replace hr := hid hr
      clear hsm
      have hn1 := hn0.out
      go_wp2_with fail
      go_at_call 13; refine list_any.mono ?_; rintro e W5 ⟨rfl, l5, b3, b4⟩
      have l35 := l3.next l5
      have s5 := s1.later l35
      have hsl5 := hsl3.later l35
      rw [← hn1] at b3
      have hSN : w.heap.size < W2.heap.size := by have := b1.lt; omega
      have hq := list_seq (X := fresh W5) hsl5 b3 b4 s5 (fun h => by have : W5.heap.size ≤ _ := h; have := b3.lt; omega) (fun h => by have : W5.heap.size ≤ _ := h; have := b4.lt; omega) (fun h => by have : W5.heap.size ≤ _ := h; have := s5.lt; omega) (fun f o e h0 hf => ⟨fun h => by have : W5.heap.size ≤ f := h; omega, fun h => by have := hA f o e (fun e => h0 (List.length_eq_zero_iff.1 e)); omega⟩) (by decide) (by decide) (by omega) (by omega)
      have hg2 := gather_any most hq enters55 s5.lt (fun k A V h c => h.chg c (fun h => by have : W5.heap.size ≤ _ := h; have := s5.lt; omega)) (by omega)
      rw [htk.out] at hg2
      clear hq hn1
      go_wp2_with fail
      go_at_call 12; refine hg2.mono ?_; rintro e W6 ⟨v2, rfl, r2, c2, s6⟩
      have z1 : W2.heap.size ≤ W3.heap.size := c1.size
      have z2 : W3.heap.size ≤ W5.heap.size := l35.size
      have z3 : W5.heap.size ≤ W6.heap.size := c2.size
      obtain ⟨A2, cap2, rfl, _, hb2⟩ := row_slice2 r2 (by rw [hlen.out]; omega) hlen.out
      have r1' := own_chg (own_chg r1 (X := fun _ => False) l35.chg (fun _ _ h => h)) c2 (fun b hb h => by have h1 := own_ge r1 b hb; have : b = w.heap.size := h; omega)
      have hsl6 := slice_keep hsl5 c2 (fun f o e h0 h => by have : f = w.heap.size := h; have := hA f o e (fun e => h0 (List.length_eq_zero_iff.1 e)); omega)
      have hap := apart_any (w := W6) (base := W2.heap.size) hlen.out (by rw [hlen.out]; exact r1') (own_lower r2 (by omega)) (fun b e1 e2 => by have h1 := own_lt r1 b e1; have h2 := own_ge r2 b e2; omega)
        (fun V c => slm V (slice_keep hsl6 c (fun f o e h0 h => by have : W2.heap.size ≤ f := h; have := hA f o e (fun e => h0 (List.length_eq_zero_iff.1 e)); omega))) (by omega) (by omega)
      have hall : Chg (upb w.heap.size) w W6 := (((l0.next l1).chg.trans (c1.mono (fun b h => by have : b = w.heap.size := h; show w.heap.size ≤ b; omega))).trans l35.chg).trans (c2.mono (fun b h => by have : b = w.heap.size := h; show w.heap.size ≤ b; omega))
      clear hg2 r1 r2 r1' hsl6 hsl5 s5 s6 hb1 hb2 sl1 hA hlA slm
      go_wp2_with fail
      go_at_call 15; refine hap.mono ?_; rintro e W7 ⟨rfl, c7⟩
      go_wp2_with fail
      go_at_call 16; refine (awake_any W7).mono ?_; rintro e W8 ⟨rfl, l8⟩
      go_wp2_with fail
      go_ret
      have h8 := (hall.trans (c7.mono (fun b h => by have : W2.heap.size ≤ b := h; show w.heap.size ≤ b; omega))).trans l8.chg
      exact ⟨by simp, h8.os, h8.tape, h8.output, h8.size, fun b hb => h8.block b hb (fun h => by have : w.heap.size ≤ b := h; omega)⟩
end Go.Proofs.Yteledidnhjioaaa.Sh
namespace Go.Proofs.Yteledidnhjioaaa.Sh
open Go.RowKit Go.Lib Go.Proofs Go.Shelf
set_option linter.unusedVariables false
set_option linter.unusedSimpArgs false
/-! ### sequences that keep blocks of their own: all of them laid before the first element is handed over -/
abbrev priv (lo hi : Nat) : Nat → Prop := fun b => lo ≤ b ∧ b < hi
/-- a function value that tells just these; it writes cells Z, and its own blocks from W's size up to hi, which the consumer leaves alone -/
def SeqZ (X Z : Nat → Prop) (g : Nat) (lb : Array Value) (xs : List (Int × Int)) (G : Nat → World → Prop) (w0 : World) : Prop :=
  ∀ (n l : Nat) (J Jx : Nat → List (Int × Int) → World → Prop) (W : World), Later w0 W → (∀ hi, AbidesFrom W.heap.size (J hi)) → (∀ hi, AbidesFrom W.heap.size (Jx hi)) →
    (∀ hi s A B, J hi s A → Chg (fun b => Z b ∨ priv W.heap.size hi b) A B → J hi s B) → (∀ hi s A B, Jx hi s A → Chg (fun b => Z b ∨ priv W.heap.size hi b) A B → Jx hi s B) →
    (∀ hi m pre x W1, W.heap.size ≤ hi → J hi pre W1 → pre.length < xs.length → YieldAt FW m Try.prog l (encP x) W1 fun e V =>
      (e = .returned (.bool true) ∧ J hi (pre ++ [x]) V ∧ Chg (fun b => X b ∧ ¬ priv W.heap.size hi b) W1 V) ∨ (e = .returned (.bool false) ∧ Jx hi (pre ++ [x]) V ∧ Chg (fun b => X b ∧ ¬ priv W.heap.size hi b) W1 V)) →
    (∀ hi V, Chg (fun b => Z b ∨ W.heap.size ≤ b) W V → W.heap.size ≤ hi → hi ≤ V.heap.size → J hi [] V) → CallsIn FW n Try.prog g (#[.func (.yield l) #[] #[]] ++ lb) W fun e V =>
      (∃ v, e = .returned v) ∧ ∃ hi, W.heap.size ≤ hi ∧ ((J hi xs V ∧ G xs.length V) ∨ ∃ pre, pre <+: xs ∧ Jx hi pre V ∧ G pre.length V)
theorem SeqW.z {X Z : Nat → Prop} {g : Nat} {lb : Array Value} {xs : List (Int × Int)} {G : Nat → World → Prop} {w0 : World} (h : SeqW X Z g lb xs G w0) : SeqZ X Z g lb xs G w0 := by
  intro n l J Jx W hW hJ hJx hJz hJxz hY h0
  have up : ∀ {A B : World}, Chg Z A B → Chg (fun b => Z b ∨ priv W.heap.size W.heap.size b) A B := fun c => c.mono (fun b h => .inl h)
  refine (h n l (J W.heap.size) (Jx W.heap.size) W hW (hJ _) (hJx _) (fun s A B k c => hJz _ s A B k (up c)) (fun s A B k c => hJxz _ s A B k (up c)) ?_ (h0 _ W (Chg.refl _ _) (Nat.le_refl _) (Nat.le_refl _))).mono ?_
  · intro m pre x W1 hj hlt
    refine YieldAt.mono (hY W.heap.size m pre x W1 (Nat.le_refl _) hj hlt) ?_
    rintro e V (⟨h1, h2, h3⟩ | ⟨h1, h2, h3⟩)
    · exact .inl ⟨h1, h2, h3.mono fun b h => h.1⟩
    · exact .inr ⟨h1, h2, h3.mono fun b h => h.1⟩
  · rintro e V ⟨h1, h2⟩
    exact ⟨h1, W.heap.size, Nat.le_refl _, h2⟩
theorem Books.chg' {Y Z : Nat → Prop} {D : Nat} {r : Loop} {W V : World} (h : Books D r W) (c : Chg (fun b => Z b ∨ Y b) W V) (hz : ∀ b, Z b → b < D) (hy : ∀ b, Y b → D + 2 ≤ b) : Books D r V := by
  have := h.lt
  exact ⟨(c.block D (by omega) (fun e => e.elim (fun e => by have := hz _ e; omega) (fun e => by have := hy _ e; omega))).trans h.1, (c.block (D + 1) (by omega) (fun e => e.elim (fun e => by have := hz _ e; omega) (fun e => by have := hy _ e; omega))).trans h.2⟩
set_option maxHeartbeats 2000000 in
theorem block_z {e p : Nat} {g : Operand} {assign body : Code} {Q : Exit → Act → World → Prop} {a : Act} {w w0 : World} {X Z : Nat → Prop} {gf : Nat} {lb : Array Value} {xs : List (Int × Int)} {G : Nat → World → Prop} (q : Nat)
    (hg : a.eval g = .func (.func gf) #[] lb) (eg : ∀ args w, (callFunc gf args).run Try.prog w = .ok (.enter gf args) w) (hseq : SeqZ X Z gf lb xs G w0) (hb0 : Later w0 w) (hX : ∀ b, w.heap.size ≤ b → X b) (hZ : ∀ b, Z b → b < w.heap.size)
    (hG : ∀ k A l o, G k A → w.heap.size ≤ l → G k (A.putObj l o))
    (I : Nat → List (Int × Int) → World → Prop) (Ix : Nat → Code → List (Int × Int) → World → Prop) (hI : ∀ hi, OwnFrom w.heap.size (I hi)) (hIx : ∀ hi c, OwnFrom w.heap.size (Ix hi c))
    (hIZ : ∀ hi s A B, I hi s A → Chg (fun b => Z b ∨ priv (w.heap.size + 2) hi b) A B → I hi s B) (hIxZ : ∀ hi c s A B, Ix hi c s A → Chg (fun b => Z b ∨ priv (w.heap.size + 2) hi b) A B → Ix hi c s B)
    (h0 : ∀ hi V, Chg (fun b => Z b ∨ w.heap.size ≤ b) w V → w.heap.size + 2 ≤ hi → hi ≤ V.heap.size → I hi [] V) (hsz : ∀ hi pre W, I hi pre W → hi ≤ W.heap.size)
    (hassign : ∀ (l : Nat) (x : Int × Int) (W : World) (K : Act → World → Prop), K (inTmps a p q x W.heap.size) (W.alloc (.cells #[.int .i64 x.1, .int .i64 x.2] 27)) →
      assign.wpIn (FW.inRound l) 1 Try.prog (Exit.then K (fun _ _ _ => False)) { tmps := a.tmps.setIfInBounds p (pairV x), defers := [] } W)
    (hbody : ∀ (hi l : Nat) (pre : List (Int × Int)) (x : Int × Int) (Bx : Nat) (W : World), w.heap.size + 2 ≤ hi → I hi pre W → Boxed2 W Bx (.int .i64 x.1) (.int .i64 x.2) → hi ≤ Bx → pre.length < xs.length →
      body.wpIn (FW.inRound l) 1 Try.prog (leftW w.heap.size (fun b => X b ∧ ¬ priv (w.heap.size + 2) hi b) (I hi) (Ix hi) (pre ++ [x]) W) (inTmps a p q x Bx) W)
    (hdone : ∀ (hi D : Nat) (W : World), w.heap.size + 2 ≤ hi → w.heap.size ≤ D → W.heap[D]? = some (.deferred (some [])) → I hi xs W → G xs.length W → Q .normal { a with defers := { target := .collected D, args := #[] } :: a.defers } W)
    (hstop : ∀ (hi D : Nat) (c : Code) (pre : List (Int × Int)) (W : World), w.heap.size + 2 ≤ hi → w.heap.size ≤ D → W.heap[D]? = some (.deferred (some [])) → pre <+: xs → Ix hi c pre W → G pre.length W →
      (c = .ret ∧ Q .ret { a with defers := { target := .collected D, args := #[] } :: a.defers } W) ∨ (c = .exit e ∧ Q .normal { a with defers := { target := .collected D, args := #[] } :: a.defers } W)) :
    (Code.block e (Code.rangeFunc g #[p] assign body)).wp Try.prog Q a w := by
  refine wp_block ((wpIn_wide (n := 3)).1 (wpIn_rangeFunc ?_))
  intro fn hfn
  obtain ⟨rec, hrec⟩ : ∃ rec : LoopState → Option Code → Loop, rec = fun st pe => { state := st, pending := pe, fn, tmps := a.tmps, params := #[p], assign, body, defers := w.heap.size } := ⟨_, rfl⟩
  obtain ⟨D, hD⟩ : ∃ D, w.heap.size = D := ⟨_, rfl⟩
  obtain ⟨W1, hW1⟩ : ∃ W1, (w.alloc (.deferred (some []))).alloc (.loop (rec .ready none)) = W1 := ⟨_, rfl⟩
  have hbk : Books D (rec .ready none) W1 := by
    rw [← hW1, ← hD]
    refine ⟨(Below.heap_alloc _ _ _ (by simp)).trans (World.alloc_heap_new w _), ?_⟩
    have := World.alloc_heap_new (w.alloc (.deferred (some []))) (.loop (rec .ready none))
    rwa [World.size_alloc] at this
  have hlw : Later w W1 := by rw [← hW1]; exact ((Later.refl w).alloc _).alloc _
  have hl1 : Later w0 W1 := by rw [← hW1]; exact hb0.next (((Later.refl w).alloc _).alloc _)
  have hs1 : W1.heap.size = D + 2 := by rw [← hW1, World.size_alloc, World.size_alloc, hD]
  rw [hD] at hX hZ hG hI hIx hIZ hIxZ h0 hbody hdone hstop
  have hz : ∀ x, (#[p].zip (encP x)).foldl (fun t (p, v) => t.setIfInBounds p v) a.tmps = a.tmps.setIfInBounds p (pairV x) := fun x => by
    rw [show (#[p].zip (encP x)) = #[(p, pairV x)] from by apply Array.ext'; simp [encP]]
    simp
  refine ⟨D + 1, [{ target := .collected D, args := #[] }], W1, { target := .fn (.func gf) lb, args := #[.func (.yield (D + 1)) #[] #[]] }, W1, gf, #[.func (.yield (D + 1)) #[] #[]] ++ lb, W1, ?_, ?_, fun f' hf' => trivial, ?_, (fun h => (by cases h)), ?_⟩
  · rw [← hW1, hrec, ← hD]; exact run_enterLoop_outer _ _ _ _ _
  · simp only [resolve, hg]; simp [go_sem]
  · simp [invoke, go_sem, eg]
  · refine (hseq (3 - 1) (D + 1) (fun hi pre W => I hi pre W ∧ Books D (rec .ready none) W) (fun hi pre W => ∃ c, Ix hi c pre W ∧ Books D (rec .done (some c)) W) W1 hl1
      (fun hi s A B row hs hg' hr => ⟨hI hi s A B row hs.1 hg' fun b eb => ?_, hs.2.own hg' fun b eb => (hr b eb).2⟩)
      (fun hi s A B row hs hg' hr => ?_)
      (fun hi s A B hs c => by rw [hs1] at c; exact ⟨hIZ hi s A B hs.1 c, hs.2.chg' c hZ (fun b h => h.1)⟩) (fun hi s A B hs c => by rw [hs1] at c; obtain ⟨k, h1, h2⟩ := hs; exact ⟨k, hIxZ hi k s A B h1 c, h2.chg' c hZ (fun b h => h.1)⟩) ?_ ?_).mono ?_
    · obtain ⟨hb, o, ho, hw⟩ := hr b eb
      exact ⟨by omega, o, ho, Obj.not_cells_of_walk hw⟩
    · obtain ⟨c, h1, h2⟩ := hs
      refine ⟨c, hIx hi c s A B row h1 hg' fun b eb => ?_, h2.own hg' fun b eb => (hr b eb).2⟩
      obtain ⟨hb, o, ho, hw⟩ := hr b eb
      exact ⟨by omega, o, ho, Obj.not_cells_of_walk hw⟩
    · -- a round
      rintro hi m pre x V hhi ⟨hi0, hb⟩ hlen
      rw [hs1] at hhi ⊢
      have hy := run_yield (P := Try.prog) (args := encP x) hb.2 (by rw [hrec]; rfl)
      rw [hrec] at hy
      dsimp only at hy
      rw [hz x] at hy
      refine YieldAt.anyDepth (m := 1) rfl m ⟨fn, _, assign, body, hy, roundIn_of_wpIn hfn (hassign _ x V _ ?_)⟩
      have la : Later V (V.alloc (.cells #[.int .i64 x.1, .int .i64 x.2] 27)) := (Later.refl V).alloc _
      have hb2 := hb.keep (kf_later la)
      have hi2 := (hI hi).alloc (.cells #[.int .i64 x.1, .int .i64 x.2] 27) hi0
      have bx := Boxed2.new V (.int .i64 x.1) (.int .i64 x.2)
      have hsV := hsz _ _ _ hi0
      generalize V.alloc (.cells #[.int .i64 x.1, .int .i64 x.2] 27) = Va at la hb2 hi2 bx ⊢
      obtain ⟨X', hX'⟩ : ∃ X' : Nat → Prop, (fun b => X b ∧ ¬ priv (D + 2) hi b) = X' := ⟨_, rfl⟩
      have hXD : X' (D + 1) := by rw [← hX']; exact ⟨hX _ (by omega), fun h => by have := h.1; omega⟩
      rw [hX']
      obtain ⟨r2, hr2⟩ : ∃ r2, ({ rec .ready none with state := .busy } : Loop) = r2 := ⟨_, rfl⟩
      refine ⟨_, run_beginRound hb2.2 (by rw [hrec]), ?_⟩
      rw [hr2]
      have hb3 := hb2.turn r2
      have hi3 := (hI hi).putObj (.loop r2) hi2 (by omega) hb2.2 rfl
      have bx3 : Boxed2 (Va.putObj (D + 1) (.loop r2)) V.heap.size (.int .i64 x.1) (.int .i64 x.2) := bx.kept (grownBy_putObj' _ _ _) (fun e' => by injection e' with e'; have h2 := hb2.2; rw [← e', show Va.heap[V.heap.size]? = _ from bx] at h2; cases h2)
      have c3 : Chg X' V (Va.putObj (D + 1) (.loop r2)) := (Later.chg la).trans (chg_put _ _ _ hXD)
      have hbd := hbody hi (D + 1) pre x V.heap.size _ hhi hi3 bx3 hsV hlen
      rw [hX'] at hbd
      refine wpIn_mono hbd ?_
      have fin : ∀ (jump : Option Code) (Vz : World), KeepsFrom D (Va.putObj (D + 1) (.loop r2)) Vz → Chg X' (Va.putObj (D + 1) (.loop r2)) Vz →
          ∃ Vy, (Instr.endRound (D + 1) jump).run Try.prog Vz = .ok (.bool jump.isNone) Vy ∧ Vy = Vz.putObj (D + 1) (.loop (rec (if jump.isNone then .ready else .done) jump)) ∧ Books D (rec (if jump.isNone then .ready else .done) jump) Vy ∧ Chg X' V Vy := fun jump Vz hk hc => by
        have hbz := hb3.keep hk
        have hrun := run_endRound (P := Try.prog) jump hbz.2
        have hr3 : ({ r2 with state := if jump.isNone then .ready else .done, pending := jump } : Loop) = rec (if jump.isNone then .ready else .done) jump := by rw [← hr2, hrec]
        rw [hr3] at hrun
        exact ⟨_, hrun, rfl, hbz.turn _, (c3.trans hc).trans (chg_put _ _ _ hXD)⟩
      rintro ex az Vz hp
      cases ex with
      | normal =>
        obtain ⟨hk, hc, hi4⟩ := hp
        obtain ⟨Vy, hrun, hVy, hby, hcy⟩ := fin none Vz hk hc
        exact ⟨_, _, hrun, .inl ⟨rfl, ⟨by rw [hVy]; exact (hI hi).putObj _ hi4 (by omega) (hb3.keep hk).2 rfl, hby⟩, hcy⟩⟩
      | ret =>
        obtain ⟨hk, hc, hi4⟩ := hp
        obtain ⟨Vy, hrun, hVy, hby, hcy⟩ := fin (some .ret) Vz hk hc
        exact ⟨_, _, hrun, .inr ⟨rfl, ⟨.ret, by rw [hVy]; exact (hIx hi _).putObj _ hi4 (by omega) (hb3.keep hk).2 rfl, hby⟩, hcy⟩⟩
      | exit id =>
        obtain ⟨hk, hc, hi4⟩ := hp
        obtain ⟨Vy, hrun, hVy, hby, hcy⟩ := fin (some (.exit id)) Vz hk hc
        exact ⟨_, _, hrun, .inr ⟨rfl, ⟨.exit id, by rw [hVy]; exact (hIx hi _).putObj _ hi4 (by omega) (hb3.keep hk).2 rfl, hby⟩, hcy⟩⟩
      | goto t => exact hp.elim
      | panic ch => exact hp.elim
      | outgrown => exact hp.elim
    · -- at the start
      intro hi V hc hh hv
      rw [hs1] at hh hc
      exact ⟨h0 hi V ((Later.chg hlw).trans (hc.mono fun b h => h.imp id fun h => by omega)) hh hv, hbk.chg' hc hZ (fun b h => h)⟩
    · -- behind the function
      rintro ex V ⟨⟨v, rfl⟩, hi, hhi, (⟨⟨hi0, hb⟩, hgk⟩ | ⟨pre, hpre, ⟨c, hi0, hb⟩, hgk⟩)⟩
      all_goals rw [hs1] at hhi
      · have hrun := run_endLoop (P := Try.prog) hb.2 (by rw [hrec]; simp)
        refine ⟨none, _, by rw [hrec] at hrun; exact hrun, ?_⟩
        exact hdone hi D _ hhi (Nat.le_refl _) ((World.putObj_heap_other (by omega)).trans hb.1) ((hI hi).putObj _ hi0 (by omega) hb.2 rfl) (hG _ _ _ _ hgk (by omega))
      · have hrun := run_endLoop (P := Try.prog) hb.2 (by rw [hrec]; simp)
        rw [show (rec .done (some c)).pending = some c from by rw [hrec]] at hrun
        obtain ⟨Vx, hVx⟩ : ∃ Vx, V.putObj (D + 1) (.loop { rec .done (some c) with state := .exhausted, pending := some c }) = Vx := ⟨_, rfl⟩
        rw [hVx] at hrun
        refine ⟨some c, Vx, hrun, ?_⟩
        rcases hstop hi D c pre Vx hhi (Nat.le_refl _) (by rw [← hVx]; exact (World.putObj_heap_other (by omega)).trans hb.1) hpre (by rw [← hVx]; exact (hIx hi c).putObj _ hi0 (by omega) hb.2 rfl) (by rw [← hVx]; exact hG _ _ _ _ hgk (by omega)) with ⟨rfl, hq⟩ | ⟨rfl, hq⟩
        · exact wpIn_ret hq
        · refine wpIn_exit ?_
          show (if e = e then _ else _ : Prop)
          rw [if_pos rfl]
          exact hq
end Go.Proofs.Yteledidnhjioaaa.Sh
