import Derived.Test.YteledidnhjioaaaSjG
namespace Go.Proofs.Yteledidnhjioaaa.St
open Go.RowKit Go.Lib Go.Proofs Go.Shelf Go.Proofs.Yteledidnhjioaaa.Sh
set_option linter.unusedVariables false
set_option linter.unusedSimpArgs false
/-! ### sets of texts -/
theorem hasL_iff (x : ByteArray) : ∀ L : List ByteArray, hasL cmpD x L = true ↔ x ∈ L
  | [] => by simp [hasL]
  | y :: t => by
    unfold hasL
    by_cases h : cmpD x y = 0
    · have := (cmpD_eq x y).1 h
      rw [if_pos h]
      simp [this]
    · rw [if_neg h, hasL_iff x t]
      have : x ≠ y := fun e => h ((cmpD_eq x y).2 e)
      simp [this]
theorem mem_ins {x z : ByteArray} : ∀ {L : List ByteArray}, z ∈ insL cmpD x false L ↔ z = x ∨ z ∈ L
  | [] => by simp [insL]
  | y :: t => by
    unfold insL
    by_cases h1 : cmpD x y < 0
    · rw [if_pos h1]; simp
    · rw [if_neg h1]
      by_cases h2 : 0 < cmpD x y
      · rw [if_pos h2, List.mem_cons, mem_ins, List.mem_cons]
        constructor
        · rintro (h | h | h)
          · exact .inr (.inl h)
          · exact .inl h
          · exact .inr (.inr h)
        · rintro (h | h | h)
          · exact .inr (.inl h)
          · exact .inl h
          · exact .inr (.inr h)
      · rw [if_neg h2, if_neg (by simp)]
        have h0 : cmpD x y = 0 := by omega
        have e := (cmpD_eq x y).1 h0
        subst e
        simp
theorem mem_rem {x z : ByteArray} : ∀ {L : List ByteArray}, Rises cmpD L → (z ∈ remL cmpD x L ↔ z ∈ L ∧ z ≠ x)
  | [], _ => by simp [remL]
  | y :: t, hr => by
    obtain ⟨hy, ht⟩ := List.pairwise_cons.1 hr
    unfold remL
    by_cases h : cmpD x y = 0
    · have e := (cmpD_eq x y).1 h
      subst e
      rw [if_pos h]
      constructor
      · intro hz
        refine ⟨List.mem_cons_of_mem _ hz, fun e => ?_⟩
        subst e
        have := hy z hz
        rw [h] at this
        omega
      · rintro ⟨hz, hne⟩
        rcases List.mem_cons.1 hz with e | e
        · exact absurd e hne
        · exact e
    · rw [if_neg h, List.mem_cons, mem_rem ht, List.mem_cons]
      have hyx : y ≠ x := fun e => h ((cmpD_eq x y).2 e.symm)
      constructor
      · rintro (rfl | ⟨h1, h2⟩)
        · exact ⟨.inl rfl, hyx⟩
        · exact ⟨.inr h1, h2⟩
      · rintro ⟨rfl | h1, h2⟩
        · exact .inl rfl
        · exact .inr ⟨h1, h2⟩
/-! ### a list of texts, as it is read -/
def TextsAt (W : World) (A : Option Addr) (cap : Nat) (l : List ByteArray) : Prop :=
  l.length ≤ cap ∧ l.length ≤ 4611686018427387904 ∧ ∀ i x, l[i]? = some x → ∃ b o, A = some ⟨b, o, none⟩ ∧ W.cell? ⟨b, o + i, none⟩ = some (.string x)
theorem TextsAt.far {w W4 W' : World} {sb : Nat} {A : Option Addr} {cap : Nat} {l : List ByteArray} (h : TextsAt w A cap l) (k : Later w W4) (c : Chg (only sb) W4 W') (hs : w.heap.size ≤ sb) : TextsAt W' A cap l :=
  ⟨h.1, h.2.1, fun i y hi => by
    obtain ⟨b, o, e, c0⟩ := h.2.2 i y hi
    have := cell_lt c0
    have hne : ¬ only sb b := fun e => by have : b = sb := e; omega
    exact ⟨b, o, e, c.cell (k.cell c0) hne⟩⟩
theorem TextsAt.later {W W' : World} {A : Option Addr} {cap : Nat} {l : List ByteArray} (h : TextsAt W A cap l) (k : Later W W') : TextsAt W' A cap l :=
  ⟨h.1, h.2.1, fun i x hi => by obtain ⟨b, o, ha, h0⟩ := h.2.2 i x hi; exact ⟨b, o, ha, k.cell h0⟩⟩
theorem len_is {X : Nat → Prop} {c n : Nat} {w : World} {sb : Nat} {T : Tr ByteArray} (h : Shf X w sb c T) (hn : n = T.size) :
    Calls Try.prog 41 #[.pointer (some ⟨sb, 0, none⟩)] w fun e w' => e = .returned (.int .i64 n) ∧ w = w' := by rw [hn]; exact len_any h
theorem rank_same {X : Nat → Prop} {c : Nat} {f : ByteArray → ByteArray → Int} (hc : Comp c f) (x : ByteArray) {w : World} {sb : Nat} {T : Tr ByteArray} (h : Shf X w sb c T) (hz : T.size ≤ 4611686018427387904) (hr : Rises f T.list) :
    Calls Try.prog 42 #[.pointer (some ⟨sb, 0, none⟩), .string x] w fun e w' => e = .returned (.int .i64 (rankL f x T.list : Nat)) ∧ Later w w' := by
  have k := rank_any hc x h hz
  rw [rank_list hc.ord x T hr] at k
  exact k
theorem nth_some {X : Nat → Prop} {c : Nat} (i : Nat) {w : World} {sb : Nat} {T : Tr ByteArray} {y : ByteArray} (h : Shf X w sb c T) (hz : T.size ≤ 4611686018427387904) (hy : T.list[i]? = some y) :
    Calls Try.prog 40 #[.pointer (some ⟨sb, 0, none⟩), .int .i64 i] w fun e w' => e = .returned (.tuple #[.string y, .bool true]) ∧ Later w w' := by
  have hi : i < T.size := by rw [← Tr.size_list]; exact (List.getElem?_eq_some_iff.1 hy).1
  have k := nth_in i h hi hz
  rw [nth_list, hy] at k
  exact k
theorem find_none {X : Nat → Prop} {c : Nat} {f : ByteArray → ByteArray → Int} (hc : Comp c f) (x : ByteArray) {w : World} {sb : Nat} {T : Tr ByteArray} (h : Shf X w sb c T) (hy : T.find f x = none) :
    Calls Try.prog 44 #[.pointer (some ⟨sb, 0, none⟩), .string x] w fun e w' => e = .returned (.tuple #[.string ByteArray.empty, .bool false]) ∧ Later w w' := by
  have k := find_any hc x h
  rw [hy] at k
  exact k
/-! ### a range over a sequence of texts -/
abbrev inTmps (a : Act) (p q : Nat) (x : ByteArray) : Act := { tmps := (a.tmps.setIfInBounds p (.string x)).setIfInBounds q (.string x), defers := [] }
theorem block_range {e p : Nat} {g : Operand} {assign body : Code} {Q : Exit → Act → World → Prop} {a : Act} {w w0 : World} {X : Nat → Prop} {gf : Nat} {lb : Array Value} {xs : List ByteArray} (q : Nat)
    (hg : a.eval g = .func (.func gf) #[] lb) (eg : ∀ args w, (callFunc gf args).run Try.prog w = .ok (.enter gf args) w) (hseq : SeqT X gf lb xs w0) (hb0 : Below w0.heap.size w0 w) (hX : ∀ b, w.heap.size ≤ b → X b)
    (I : List ByteArray → World → Prop) (Ix : Code → List ByteArray → World → Prop) (hI : OwnFrom w.heap.size I) (hIx : ∀ c, OwnFrom w.heap.size (Ix c)) (h0 : I [] w)
    (hend : ∀ c pre W, Ix c pre W → pre <+: xs → c = .exit e)
    (hassign : ∀ (l : Nat) (x : ByteArray) (W : World) (K : Act → World → Prop), K (inTmps a p q x) W →
      assign.wpIn (FW.inRound l) 1 Try.prog (Exit.then K (fun _ _ _ => False)) { tmps := a.tmps.setIfInBounds p (.string x), defers := [] } W)
    (hbody : ∀ (l : Nat) (pre : List ByteArray) (x : ByteArray) (W : World), I pre W → pre.length < xs.length →
      body.wpIn (FW.inRound l) 1 Try.prog (ownPostG w.heap.size (Chg X) I Ix (pre ++ [x]) W) (inTmps a p q x) W)
    (hnext : ∀ (D : Nat) (W : World), w.heap.size ≤ D → W.heap[D]? = some (.deferred (some [])) → (I xs W ∨ ∃ pre, Ix (.exit e) pre W) → Q .normal { a with defers := { target := .collected D, args := #[] } :: a.defers } W) :
    (Code.block e (Code.rangeFunc g #[p] assign body)).wp Try.prog Q a w := by
  refine wp_block ((wpIn_wide (n := 3)).1 ?_)
  refine wpIn_rangeFunc_ownH (F := Fence.wide) (n := 3) (encs := encS) (w0 := w0) rfl (by omega) hg trivial eg (hseq 2) (fun h k => h.trans k) (fun W l o o' hl _ _ _ => chg_put W l o' (hX l hl)) hb0 (fun _ => rfl) I Ix hI hIx h0
    (fun x a' W => a' = inTmps a p q x) (fun x a' _ X Y row hs hg hr => hs) ?assign ?body ?done ?stop
  case assign =>
    intro l pre x W K hi hK
    have hz : (#[p].zip (encS x)) = #[(p, .string x)] := by apply Array.ext'; simp [encS]
    have hf : (#[p].zip (encS x)).foldl (fun t (p, v) => t.setIfInBounds p v) a.tmps = a.tmps.setIfInBounds p (.string x) := by rw [hz]; simp
    rw [hf]
    refine hassign l x W K ?_
    exact hK _ _ (KeepsFrom.refl _ _) (Chg.refl _ _) hi rfl
  case body =>
    rintro l pre x a' W hl hr hi rfl hlt
    exact hbody l pre x W hi hlt
  case done =>
    rintro D ys W hD rfl hi hK
    exact hnext D W hD hK (.inl hi)
  case stop =>
    rintro D c pre W hD hpre hx hK
    obtain rfl := hend c pre W hx hpre
    refine wpIn_exit ?_
    show (if e = e then _ else _ : Prop)
    rw [if_pos rfl]
    exact hnext D W hD hK (.inr ⟨pre, hx⟩)
end Go.Proofs.Yteledidnhjioaaa.St
