import Derived.Test.YteledidnhjioaaaSjB
namespace Go.Proofs.Yteledidnhjioaaa.St
open Go.RowKit Go.Lib Go.Proofs Go.Shelf Go.Proofs.Yteledidnhjioaaa.Sh
set_option linter.unusedVariables false
set_option linter.unusedSimpArgs false
def firstPost (ok : Nat → Prop) (w : World) (l : Tr ByteArray) (x : ByteArray) (r : Tr ByteArray) (e : Ending) (w' : World) : Prop :=
  ∃ q, e = .returned (.tuple #[.string (Tr.first l x r).1, .pointer q]) ∧ IsT ok w' q (Tr.first l x r).2 ∧ Later w w'
set_option maxRecDepth 100000 in
set_option maxHeartbeats 8000000 in
theorem first_any : ∀ (l : Tr ByteArray) (x : ByteArray) (r : Tr ByteArray) (w : World) (p : Option Addr) (ok : Nat → Prop), Up ok w.heap.size → IsT ok w p (.node l x r) → l.size + r.size + 1 ≤ 4611686018427387904 → Calls Try.prog 88 #[.pointer p] w (firstPost ok w l x r)
  | .leaf, x, r, w, p, ok, hu, h, hs => by
    obtain ⟨b, pl, pr, rfl, hb, hc, hl, hr⟩ := IsT.node h
    obtain rfl : pl = none := hl w (Later.refl _)
    have hb0 := Later.refl w
    have hcw := hc w hb0
    clear h
    go_enter Try.func88, Try.ntmps88
    go_wp2_with fail
    go_region_held3 (fun W' => Later w W') (first | assumption | exact Later.drew (by assumption)) (fail)
    go_wp2_with fail
    go_ret2
    exact ⟨pr, rfl, hr _ (Later.drew hb0), Later.drew hb0⟩
  | .node ll lx lr, x, r, w, p, ok, hu, h, hs => by
    obtain ⟨b, pl, pr, rfl, hb, hc, hl, hr⟩ := IsT.node h
    have hs2 := hs
    simp only [Tr.size] at hs2
    have hb0 := Later.refl w
    obtain ⟨bl, pll, plr, hpl, _⟩ := IsT.node (hl w hb0)
    subst hpl
    have hcw := hc w hb0
    have ih := first_any ll lx lr w _ ok hu (hl w hb0) (by omega)
    have hsz := Tr.first_size ll lx lr
    obtain ⟨y, hy⟩ : ∃ y, (Tr.first ll lx lr).1 = y := ⟨_, rfl⟩
    obtain ⟨T', hT⟩ : ∃ T', (Tr.first ll lx lr).2 = T' := ⟨_, rfl⟩
    unfold firstPost at ih
    rw [hT] at hsz
    rw [hy, hT] at ih
    have hg : Tr.first (.node ll lx lr) x r = (y, Tr.even T' x r) := by simp only [Tr.first]; rw [hy, hT]
    have hsE : T'.size + r.size + 1 ≤ 4611686018427387904 := by omega
    unfold firstPost
    rw [hg]
    clear hg hy hT h hs hs2 hsz
    go_enter Try.func88, Try.ntmps88
    go_wp2_with (go_at_call 88; refine ih.mono ?_; rintro e w1 ⟨q, rfl, ht, hb1⟩)
    have hc1 : ∀ W', Later w1 W' → _ := fun W' k => hc W' (Later.next hb1 k)
    have hev := even_any (ok := ok) (w := w1.drew) x (hu.mono hb1.size) (ht.later (Later.refl w1).drew) (hr _ (hb1.next (Later.refl w1).drew)) hsE
    have hb10 := Later.refl w1
    have hla : ∀ W', Later w1 W' → Later w W' := fun W' k => hb1.next k
    clear hc hcw ih
    go_region_held3 (fun W' => Later w1 W') (first | assumption | exact Later.drew (Later.refl _) | exact Later.next (by assumption) hb3) (first | (go_at_call 87; (with_reducible refine hev.mono ?_); rintro e w3 ⟨p3, rfl, ht3, hb3⟩))
    go_wp2_with fail
    go_ret2
    exact ⟨p3, rfl, ht3, hla _ (by assumption)⟩
end Go.Proofs.Yteledidnhjioaaa.St
