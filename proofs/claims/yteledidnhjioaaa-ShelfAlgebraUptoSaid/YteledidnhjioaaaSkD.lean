import Derived.Test.YteledidnhjioaaaSkC
namespace Go.Proofs.Yteledidnhjioaaa.Sh
open Go.RowKit Go.Lib Go.Proofs Go.Shelf
set_option linter.unusedVariables false
set_option linter.unusedSimpArgs false
attribute [local go_sem] Oper.semAt_some
theorem enters80 : ∀ args w, (callFunc 80 args).run Try.prog w = .ok (.enter 80 args) w := fun args w => enters_of Try.func80 (by kernel_rfl) rfl args w
theorem enters90 : ∀ args w, (callFunc 90 args).run Try.prog w = .ok (.enter 90 args) w := fun args w => enters_of Try.func90 (by kernel_rfl) rfl args w
theorem row_any {V : World} {base t z n : Nat} {v : Value} {xs : List Value} (h : V.ownsRow base t z v n xs) : ∃ A cp, v = .slice A n cp := by
  rcases h.2 with ⟨rfl, h0⟩ | ⟨g, cp, cur, e, _⟩
  · exact ⟨none, 0, by rw [h0]⟩
  · exact ⟨_, _, e⟩
theorem sides_apart {lo base n : Nat} {V : World} {v : Value} {O : Option Nat} {Ds : List Nat} {qs : List (List (Int × Int))} {xs : List Value} (h : Sides lo O V Ds qs) (hown : V.ownsRow base 113 1 v n xs) : ∀ D ∈ Ds, v.ownBlock ≠ some D := fun D hD e => by
  obtain ⟨cs, f, h1⟩ := h.cells D hD
  obtain ⟨_, _, cur, f', h2⟩ := own_at hown D e
  rw [h1] at h2; cases h2
set_option maxRecDepth 100000 in
/-- Join as a sequence: the least head over and over -/
theorem joins_seq {c N BC BL cap : Nat} {f : (Int × Int) → (Int × Int) → Int} {ss : List Sq} {X Z : Nat → Prop} {I : Nat → World → Prop} {w0 : World} {A : Option Addr}
    (hc : Comp c f) (hf : ∀ a b, (f a b < 0 ↔ a.1 < b.1) ∧ (f a b = 0 ↔ a.1 = b.1)) (bC : Boxed w0 BC 54 (.func (.func c) #[] #[])) (bL : Boxed w0 BL 110 (.slice A ss.length cap))
    (hA : ∀ (i : Nat) (s : Sq), ss[i]? = some s → ∃ b o, A = some ⟨b, o, none⟩ ∧ w0.cell? ⟨b, o + i, none⟩ = some s.v ∧ ¬ Z b) (hcap : ss.length ≤ cap) (hz : ss.length ≤ 1000) (xC : ¬ X BC) (zC : ¬ Z BC) (hZ : ∀ b, Z b → b < w0.heap.size)
    (hok : ∀ W, Later w0 W → ∀ (i : Nat) (s : Sq), ss[i]? = some s → SqOk (upb W.heap.size) Z (I i) (I (i + 1)) s) (hI : ∀ i U V, I i U → Chg (fun b => w0.heap.size ≤ b ∨ X b) U V → I i V) (h0 : I 0 w0)
    (hx : ∀ (i : Nat) (s : Sq), ss[i]? = some s → s.xs.length ≤ 8796093022080) (hN : (ss.map (·.xs)).flatten.length ≤ N) (hz2 : (ss.map (·.xs)).flatten.length ≤ 4611686018427387904) :
    SeqZ X Z 78 #[.pointer (some ⟨BC, 0, none⟩), .pointer (some ⟨BL, 0, none⟩)] (mergeN N (ss.map (·.xs))) (fun _ V => I ss.length V) w0 := by
  intro n l J Jx W hW hJ hJx hJz hJxz hY hJ0
  refine callsIn_wide.2 ?_
  show Calls Try.prog 78 #[.func (.yield l) #[] #[], .pointer (some ⟨BC, 0, none⟩), .pointer (some ⟨BL, 0, none⟩)] W _
  obtain ⟨xs, hxs⟩ : ∃ xs, mergeN N (ss.map (·.xs)) = xs := ⟨_, rfl⟩
  rw [hxs] at hY ⊢
  have hsW : w0.heap.size ≤ W.heap.size := hW.size
  have la : Later W (W.alloc (.cells #[.func (.yield l) #[] #[]] 45)) := (Later.refl W).alloc _
  have l1 := hW.next la
  have bY := Boxed.new W 45 (.func (.yield l) #[] #[])
  have hs1 : (W.alloc (.cells #[.func (.yield l) #[] #[]] 45)).heap.size = W.heap.size + 1 := World.size_alloc _ _
  have cC := (bC.kept l1.grown (fun e => by cases e)).cell
  have cL := (bL.kept l1.grown (fun e => by cases e)).cell
  have hBC := bC.lt
  have main : ∀ W1, W.alloc (.cells #[.func (.yield l) #[] #[]] 45) = W1 → Calls Try.prog 79 #[.slice A ss.length cap, .func (.func 80) #[] #[.pointer (some ⟨BC, 0, none⟩), .pointer (some ⟨W.heap.size, 0, none⟩)]] W1 fun e U => (∃ v, e = .returned v) ∧ ∃ hi, W1.heap.size ≤ hi ∧ ((J hi xs U ∧ I ss.length U) ∨ ∃ pre, pre <+: xs ∧ Jx hi pre U ∧ I ss.length U) := by
    intro W1 hW1
    rw [hW1] at la l1 bY hs1
    clear cC cL
    refine sides_any (ss := ss) (Z := Z) (I := I) (Q := fun hi U => (J hi xs U ∧ I ss.length U) ∨ ∃ pre, pre <+: xs ∧ Jx hi pre U ∧ I ss.length U) (fun i s hs => ?_) hcap hz (fun i s hs => hok W1 l1 i s hs) (fun i U V h c => hI i U V h (c.mono fun b hb => .inl (by have : W1.heap.size ≤ b := hb; omega)))
      (hI 0 _ _ h0 l1.chg) (fun b hb => by have := hZ b hb; omega) hx enters80 ?_ ?_
    · obtain ⟨b, o, e, h1, h2⟩ := hA i s hs
      exact ⟨b, o, e, l1.cell h1, h2⟩
    · intro hi U V h cg
      have c1 : Chg (fun b => Z b ∨ priv W.heap.size hi b) U V := cg.mono fun b hb => .inr ⟨by have := hb.1; omega, hb.2⟩
      have c2 : Chg (fun b => w0.heap.size ≤ b ∨ X b) U V := cg.mono fun b hb => .inl (by have := hb.1; omega)
      rcases h with ⟨h1, h2⟩ | ⟨pre, hp, h1, h2⟩
      · exact .inl ⟨hJz _ _ _ _ h1 c1, hI _ _ _ h2 c2⟩
      · exact .inr ⟨pre, hp, hJxz _ _ _ _ h1 c1, hI _ _ _ h2 c2⟩
    · intro V Ds pv hIn hch hS hown
      obtain ⟨A', cp, rfl⟩ := row_any hown
      have hap := sides_apart hS hown
      have hVs := hch.size
      have bCV : Boxed V BC 54 (.func (.func c) #[] #[]) := boxed_turn (bC.kept l1.grown (fun e => by cases e)) hch (fun h => h.elim zC (fun h => by omega))
      have bYV : Boxed V W.heap.size 45 (.func (.yield l) #[] #[]) := boxed_turn bY hch (fun h => h.elim (fun h => by have := hZ _ h; omega) (fun h => by omega))
      have hj : J V.heap.size [] V := hJ0 V.heap.size V ((la.chg).trans (hch.mono fun b h => h.imp id fun h => by omega)) (by omega) (Nat.le_refl _)
      have hln : Ds.length ≤ 1000 := by rw [hS.len, List.length_map]; exact hz
      refine (merge_any (n := Ds.length) (lo0 := W.heap.size) (lo := W1.heap.size) (hi := V.heap.size) (X := X) (J := J V.heap.size) (Jx := Jx V.heap.size) (xs := xs) (N := N) hc hf bCV bYV xC (by omega) ⟨Nat.le_refl _, by omega⟩ hVs (Nat.le_refl _) rfl (hS.b hap) hown
        (fun b hb => (own_at hown b hb).2.1) (hJ _) (fun s A B h cg => hJz _ _ _ _ h (cg.mono fun b hb => .inr hb)) (fun m pre x W2 h1 h2 => hY V.heap.size m pre x W2 (by omega) h1 h2) hj hN hxs.symm hln hz2).mono ?_
      rintro e U ⟨hv, hq, cU⟩
      have hIU : I ss.length U := hI _ _ _ hIn (cU.mono fun b hb => hb.elim (fun hb => .inl (by have := hS.ge b hb; omega)) (fun hb => .inr hb.1))
      refine ⟨hv, ?_, fun b h1 h2 h3 => cU.block b h2 (fun h => h.elim h3 (fun h => h.2 ⟨by omega, h2⟩))⟩
      rcases hq with h1 | ⟨pre, hp, h1⟩
      · exact .inl ⟨h1, hIU⟩
      · exact .inr ⟨pre, hp, h1, hIU⟩
  clear hY hJ0 hJ hJx hJz hJxz hok hI h0 hA hx
  go_enter Try.func78, Try.ntmps78
  go_wp2_with fail
  rw [eqF54]
  go_wp2_with fail
  go_at_call 79; refine (main _ rfl).mono ?_; rintro e U ⟨⟨v, rfl⟩, hi, hhi, hq⟩
  clear main cC cL
  go_wp2_with fail
  go_end0
  refine ⟨⟨_, rfl⟩, hi, by omega, ?_⟩
  rcases hq with ⟨h1, h2⟩ | ⟨pre, hp, h1, h2⟩
  · exact .inl ⟨h1, h2⟩
  · exact .inr ⟨pre, hp, h1, h2⟩
end Go.Proofs.Yteledidnhjioaaa.Sh
namespace Go.Proofs.Yteledidnhjioaaa.Sh
open Go.RowKit Go.Lib Go.Proofs Go.Shelf
set_option linter.unusedVariables false
set_option linter.unusedSimpArgs false
/-! ### a region that draws its order: what keeps a class of worlds, then a tail in its own order, which may call yield -/
section
variable {P : Program} {ops : Array Oper} {md : Region.Mode} {C : World → Prop}
def anyQL (P : Program) (md : Region.Mode) (ops : Array Oper) (C : World → Prop) (n : Nat) (L : Array Bool → Act → Prop) : Nat → Array Bool → Act → Prop
  | 0, listed, a => L listed a
  | f + 1, listed, a =>
    Region.ready md ops listed ≠ [] ∧ ∀ i ∈ Region.ready md ops listed, i < n ∧ qOp P ops C i (anyQL P md ops C n L f (listed.setIfInBounds i true)) a
theorem anyQL_first {n i : Nat} {oi : Oper} {v : Value} {L : Array Bool → Act → Prop} (hi : ops[i]? = some oi) (hsel : ∀ (j : Nat) (o : Oper) cs b, ops[j]? = some o → o.op ≠ .select cs b)
    (hs : Region.sinkB md ops n = true) (hc : Region.chainB md ops n = true) (hn : n < ops.size) (hin : i < n)
    (hdone : ∀ listed a, L listed a → ∀ j ∈ Region.ready md ops listed, n ≤ j) :
    ∀ (f : Nat) (listed : Array Bool) (a : Act), HeadInv md ops n listed →
      (∀ j oj, ops[j]? = some oj → j ≠ i → listed.getD j true = false → (∀ e ∈ oj.after, Region.binds md e = true → e.on ≠ i) → oi.apart ops oj = true) →
      i ∈ Region.ready md ops listed → YieldsIn P ops C oi v a →
      anyQL P md ops C n L f (listed.setIfInBounds i true) (a.put oi.dst v) → anyQL P md ops C n L (f + 1) listed a := by
  intro f
  induction f with
  | zero =>
    intro listed a inv _ hr hy H
    have hun := (mem_ready.1 hr).1
    refine ⟨fun h => (by rw [h] at hr; cases hr), fun j hj => ?_⟩
    have hjn : j < n := by
      rcases Nat.lt_or_ge j n with h | h
      · exact h
      · exact absurd hj (tail_waits hs hc hn inv _ i rfl hin hun j h)
    refine ⟨hjn, ?_⟩
    by_cases hji : j = i
    · subst hji; exact hy.qOp hi H
    · have := hdone _ _ H j (ready_mono hj hji)
      omega
  | succ f ih =>
    intro listed a inv hfree hr hy H
    have hun := (mem_ready.1 hr).1
    refine ⟨fun h => (by rw [h] at hr; cases hr), fun j hj => ?_⟩
    have hjn : j < n := by
      rcases Nat.lt_or_ge j n with h | h
      · exact h
      · exact absurd hj (tail_waits hs hc hn inv _ i rfl hin hun j h)
    refine ⟨hjn, ?_⟩
    by_cases hji : j = i
    · subst hji; exact hy.qOp hi H
    · have h1 := (H.2 j (ready_mono hj hji)).2
      obtain ⟨hjun, oj, hoj, hall⟩ := mem_ready.1 hj
      have hnot : ∀ e ∈ oj.after, Region.binds md e = true → e.on ≠ i := fun e he hb heq => by
        have h1 := hall e he hb
        rw [heq, getD_both hun] at h1
        cases h1
      have h2 := qOp_put hoj (hfree j oj hoj hji hjun hnot) (fun cs b => hsel i oi cs b hi) (fun cs b => hsel j oj cs b hoj) hy h1
      have hfree' : ∀ k ok, ops[k]? = some ok → k ≠ i → (listed.setIfInBounds j true).getD k true = false →
          (∀ e ∈ ok.after, Region.binds md e = true → e.on ≠ i) → oi.apart ops ok = true := fun k ok hk hki hun hno => by
        refine hfree k ok hk hki ?_ hno
        by_cases hjk : j = k
        · subst hjk; exact hjun
        · rw [getD_set_ne true hjk] at hun; exact hun
      refine qOp_mono (fun a' h3 => ih (listed.setIfInBounds j true) a' (inv.set hj hjn) hfree' (ready_mono hr (Ne.symm hji)) h3.1 ?_) h2
      rw [Array.setIfInBounds_comm _ _ hji]
      exact h3.2
theorem anyQL_lex {n g : Nat} {Lq : Act → Prop} (hsel : Region.noSelect ops = true) (hs : Region.sinkB md ops n = true) (hc : Region.chainB md ops n = true) (hn : n < ops.size) :
    ∀ (l : List Oper) (k : Nat) (listed : Array Bool) (a : Act), (∀ j, j < l.length → l[j]? = ops[k + j]?) → k + l.length = n → HeadInv md ops n listed →
    Region.lexHead md ops g l.length k listed = true → wpQuiet P ops C Lq l a →
    anyQL P md ops C n (fun listed' a' => Region.seqB md ops g n listed' = true ∧ Lq a') l.length listed a
  | [], k, listed, a, _, hk, _, hB, h => by
    have : k = n := by simpa using hk
    subst this
    exact ⟨by simpa [Region.lexHead] using hB, h⟩
  | o :: l, k, listed, a, hl, hk, inv, hB, h => by
    have h0 : ops[k]? = some o := by simpa using (hl 0 (by simp)).symm
    simp only [List.length_cons, Region.lexHead, Bool.and_eq_true] at hB
    obtain ⟨⟨hr, hf⟩, hB'⟩ := hB
    have hkn : k < n := by simp only [List.length_cons] at hk; omega
    have hr' : k ∈ Region.ready md ops listed := by simpa using hr
    have hst : qOp P ops C k (wpQuiet P ops C Lq l) a := by unfold qOp; simp only [h0]; exact h
    obtain ⟨v, hy, hK⟩ := yieldsIn_of_qOp h0 hst
    exact anyQL_first h0 (Region.noSelect_spec hsel) hs hc hn hkn (fun listed' a' hL => seqB_ready hL.1) l.length listed a inv (Region.free_spec h0 hf) hr' hy
      (anyQL_lex hsel hs hc hn l (k + 1) _ _ (fun j hj => by have := hl (j + 1) (by simp; omega); simpa [Nat.add_assoc, Nat.add_comm 1 j] using this) (by simp only [List.length_cons] at hk; omega) (inv.set hr' hkn) hB' hK)
theorem opIn_of_q {Q : Exit → Act → World → Prop} {n i : Nat} {a : Act} {w : World} {K : Act → Prop} {K' : Act → World → Prop} (hC : C w) (h : ∀ a w', C w' → K a → K' a w') (hh : qOp P ops C i K a) : wpOpIn Fence.wide n P ops Q i K' a w := by
  unfold qOp at hh
  unfold wpOpIn
  cases ho : ops[i]? with
  | none => rw [ho] at hh; exact h _ _ hC hh
  | some o =>
    rw [ho] at hh
    dsimp only at hh ⊢
    by_cases hw : Region.wanted o (yielded ops a.tmps) = true
    · rw [if_pos hw] at hh ⊢
      refine ⟨fun _ _ => trivial, ?_⟩
      have e : Oper.semAt Fence.wide.round a.eval o = execOp a.eval o := rfl
      rw [e]
      obtain ⟨v, h1, h2⟩ := hh
      have h3 := h1 w hC
      unfold Oper.quietAt at h3
      generalize (execOp a.eval o).run P w = r at h3 ⊢
      cases r with
      | ok x w' =>
        cases x <;> simp only [Oper.quietUpon] at h3 <;> simp only [Oper.uponIn]
        case value u =>
          obtain ⟨e1, e2⟩ := h3
          rw [e1, e2]
          exact h _ _ hC h2
        case skip =>
          obtain ⟨e1, e2⟩ := h3
          rw [e1, ← e2]
          exact h _ _ hC h2
        case enter f args =>
          obtain ⟨e1, hc⟩ := h3
          rw [e1]
          exact ⟨fun k => (by cases k), callsIn_wide.2 (hc.mono fun e w'' ⟨he, hw''⟩ => by subst he; exact h _ _ hw'' h2)⟩
      | halt x w' => simp only [Oper.quietUpon] at h3
    · rw [if_neg hw] at hh ⊢
      exact ⟨fun _ _ => trivial, h _ _ hC hh⟩
theorem anyIn_of_headQ {m n g : Nat} {L : Array Bool → Act → Prop} {Q' : Exit → Act → World → Prop} (hL : ∀ listed a w, C w → L listed a → wpAnyIn Fence.wide m P md ops Q' g listed a w) :
    ∀ (f : Nat) (listed : Array Bool) (a : Act) (w : World), C w → anyQL P md ops C n L f listed a → wpAnyIn Fence.wide m P md ops Q' (f + g) listed a w
  | 0, listed, a, w, hC, h => by rw [Nat.zero_add]; exact hL _ _ _ hC h
  | f + 1, listed, a, w, hC, h => by
    rw [show f + 1 + g = (f + g) + 1 by omega]
    exact ⟨fun h0 => absurd h0 h.1, fun i hi => opIn_of_q hC (fun a' w' hC' h' => anyIn_of_headQ hL f _ a' w' hC' h') (h.2 i hi).2⟩
end
theorem region_yield_in {P : Program} {id m : Nat} {Q : Exit → Act → World → Prop} {a : Act} {w : World} {l : List Oper} (n : Nat) (Good : World → Prop) (hm : P.follows .mixedOrders = true) (hB : Region.lexTailB .any l.toArray n = true) (hG : Good w.drew)
    (h : wpQuiet P l.toArray (fun w' => ∃ p : InG Good, w' = p.W) (fun a' => ∀ w', Good w' → wpListIn Fence.wide m P l.toArray Q (l.drop n) a' w') (l.take n) a) : (Code.region id l.toArray true).wp P Q a w := by
  simp only [Region.lexTailB, Bool.and_eq_true, decide_eq_true_eq] at hB
  obtain ⟨⟨⟨⟨hsel, hn⟩, hs⟩, hc⟩, hlex⟩ := hB
  have hn' : n < l.length := by simpa using hn
  have htl : (l.take n).length = n := by simp; omega
  have hdl : (l.drop n).length = l.toArray.size - n := by simp
  have inv0 : HeadInv .any l.toArray n (Array.replicate l.toArray.size false) :=
    ⟨by simp, fun j oj _ hl => (by rw [getD_replicate_false] at hl; cases hl), fun t _ ht => getD_in (by simpa using ht) (getD_replicate_false _ _)⟩
  have H := anyQL_lex (md := .any) (g := l.toArray.size - n) hsel hs hc hn (l.take n) 0 _ a (fun j hj => by
    have hj' : j < n := by rw [htl] at hj; exact hj
    simp [hj']) (by simpa using htl) inv0 (by rw [htl]; exact hlex) h
  refine (wpIn_wide (n := m)).1 (wpIn_region_any hm ?_)
  have := anyIn_of_headQ (Q' := Q) (m := m) (g := l.toArray.size - n) (fun listed a' w' hC hL => by
    obtain ⟨p, rfl⟩ := hC
    have := anyIn_of_seq (md := .any) (Q' := Q) (m := m) (l.drop n) n listed a' p.W (fun j => by simp [List.getElem?_drop]) (by rw [hdl]; exact hL.1) (hL.2 _ p.h)
    rwa [hdl] at this) _ _ _ _ ⟨⟨w.drew, hG⟩, rfl⟩ H
  rw [htl, show n + (l.toArray.size - n) = l.toArray.size by omega] at this
  exact this
end Go.Proofs.Yteledidnhjioaaa.Sh
