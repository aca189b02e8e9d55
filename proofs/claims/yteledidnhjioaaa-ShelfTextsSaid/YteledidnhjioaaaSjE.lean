import Derived.Test.YteledidnhjioaaaSjD
namespace Go.Proofs.Yteledidnhjioaaa.St
open Go.RowKit Go.Lib Go.Proofs Go.Shelf Go.Proofs.Yteledidnhjioaaa.Sh
set_option linter.unusedVariables false
set_option linter.unusedSimpArgs false

def IsS (W : World) (sb c : Nat) (p : Option Addr) : Prop := W.heap[sb]? = some (.cells #[.func (.func c) #[] #[], .pointer p] 102 (0, 0))
def Tree (X : Nat → Prop) (W : World) (p : Option Addr) (T : Tr ByteArray) : Prop := ∃ ok : Nat → Prop, IsT ok W p T ∧ ∀ b, X b → ¬ ok b
def Shf (X : Nat → Prop) (W : World) (sb c : Nat) (T : Tr ByteArray) : Prop := ∃ p, IsS W sb c p ∧ Tree X W p T
theorem Tree.keep {X : Nat → Prop} {W W' : World} {p : Option Addr} {T : Tr ByteArray} (h : Tree X W p T) (k : Chg X W W') : Tree X W' p T := by
  obtain ⟨ok, ht, hx⟩ := h
  exact ⟨ok, ht.keep (k.keeps hx), hx⟩
theorem Tree.more {X Y : Nat → Prop} {W : World} {p : Option Addr} {T : Tr ByteArray} (h : Tree X W p T) (k : ∀ b, Y b → b < W.heap.size → X b) : Tree Y W p T := by
  obtain ⟨ok, ht, hx⟩ := h
  exact ⟨fun b => ok b ∧ b < W.heap.size, ht.mono fun b hb ho => ⟨ho, hb⟩, fun b hy ho => hx b (k b hy ho.2) ho.1⟩
theorem Tree.up {X : Nat → Prop} {W : World} {p : Option Addr} {T : Tr ByteArray} (h : Tree X W p T) (hX : ∀ b, X b → b < W.heap.size) : ∃ ok : Nat → Prop, Up ok W.heap.size ∧ IsT ok W p T ∧ ∀ b, X b → ¬ ok b := by
  obtain ⟨ok, ht, hx⟩ := h
  refine ⟨fun b => ok b ∧ b < W.heap.size ∨ W.heap.size ≤ b, fun b hb => .inr hb, ht.mono fun b hb ho => .inl ⟨ho, hb⟩, fun b hxb ho => ?_⟩
  rcases ho with ho | ho
  · exact hx b hxb ho.1
  · have := hX b hxb; omega
theorem IsS.keep {X : Nat → Prop} {W W' : World} {sb c : Nat} {p : Option Addr} (h : IsS W sb c p) (k : Chg X W W') (hx : ¬ X sb) : IsS W' sb c p :=
  (k.block sb (Array.getElem?_eq_some_iff.1 h).1 hx).trans h
theorem IsS.later {W W' : World} {sb c : Nat} {p : Option Addr} (h : IsS W sb c p) (k : Later W W') : IsS W' sb c p := (k.block sb (Array.getElem?_eq_some_iff.1 h).1).trans h
theorem IsS.lt {W : World} {sb c : Nat} {p : Option Addr} (h : IsS W sb c p) : sb < W.heap.size := (Array.getElem?_eq_some_iff.1 h).1
theorem IsS.cells {W : World} {sb c : Nat} {p : Option Addr} (h : IsS W sb c p) : W.cell? ⟨sb, 0, none⟩ = some (.func (.func c) #[] #[]) ∧ W.cell? ⟨sb, 1, none⟩ = some (.pointer p) ∧ W.frozen? ⟨sb, 1, none⟩ = false := by
  have h' : W.heap[sb]? = some (.cells #[.func (.func c) #[] #[], .pointer p] 102 (0, 0)) := h
  simp [World.cell?, World.frozen?, h']
theorem IsS.set {W : World} {sb c : Nat} {p q : Option Addr} (h : IsS W sb c p) : IsS (W.setCell ⟨sb, 1, none⟩ (.pointer q)) sb c q := by
  have h' : W.heap[sb]? = some (.cells #[.func (.func c) #[] #[], .pointer p] 102 (0, 0)) := h
  simp [IsS, World.setCell, Array.getElem?_modify, h']
theorem Shf.later {X : Nat → Prop} {W W' : World} {sb c : Nat} {T : Tr ByteArray} (h : Shf X W sb c T) (k : Later W W') : Shf X W' sb c T := by
  obtain ⟨p, hs, ht⟩ := h
  exact ⟨p, hs.later k, ht.keep k.chg⟩
theorem Shf.keep {X Y : Nat → Prop} {W W' : World} {sb c : Nat} {T : Tr ByteArray} (h : Shf X W sb c T) (k : Chg Y W W') (hxy : ∀ b, Y b → X b) (hx : ¬ Y sb) : Shf X W' sb c T := by
  obtain ⟨p, hs, ht⟩ := h
  exact ⟨p, hs.keep k hx, ht.keep (k.mono hxy)⟩
theorem Shf.more {X Y : Nat → Prop} {W : World} {sb c : Nat} {T : Tr ByteArray} (h : Shf X W sb c T) (k : ∀ b, Y b → b < W.heap.size → X b) : Shf Y W sb c T := by
  obtain ⟨p, hs, ht⟩ := h
  exact ⟨p, hs, ht.more k⟩
theorem Shf.lt {X : Nat → Prop} {W : World} {sb c : Nat} {T : Tr ByteArray} (h : Shf X W sb c T) : sb < W.heap.size := by
  obtain ⟨p, hs, ht⟩ := h
  exact hs.lt
def newPost (w : World) (c : Nat) (e : Ending) (w' : World) : Prop := e = .returned (.pointer (some ⟨w.heap.size, 0, none⟩)) ∧ IsS w' w.heap.size c none ∧ Later w w'
theorem eqF63 (c : Nat) (w : World) : (binOp .eql 63 (.func (.func c) #[] #[]) .nilFunc).run Try.prog w = .ok (.bool false) w := by kernel_rfl
set_option maxRecDepth 100000 in
theorem new_any (c : Nat) (w : World) : Calls Try.prog 35 #[.func (.func c) #[] #[]] w (newPost w c) := by
  have hF := eqF63 c
  go_enter Try.func35, Try.ntmps35
  go_wp2
  go_ret
  exact ⟨rfl, World.alloc_heap_new w _, (Later.refl w).alloc _⟩
theorem shf_new {W : World} {sb c : Nat} (h : IsS W sb c none) (X : Nat → Prop) : Shf X W sb c .leaf := ⟨none, h, fun _ => False, rfl, fun _ _ => id⟩
set_option maxRecDepth 100000 in
set_option maxHeartbeats 8000000 in
theorem add_any {X : Nat → Prop} {c : Nat} {f : ByteArray → ByteArray → Int} (hc : Comp c f) (x : ByteArray) {w : World} {sb : Nat} {T : Tr ByteArray} (h : Shf X w sb c T) (hX : ∀ b, X b → b < w.heap.size) (hsb : X sb) (hz : T.size + 1 ≤ 4611686018427387904) :
    Calls Try.prog 37 #[.pointer (some ⟨sb, 0, none⟩), .string x] w fun e w' => e = .returned (.bool (!(T.put f x false).2)) ∧ Shf X w' sb c (T.put f x false).1 ∧ Chg (only sb) w w' := by
  obtain ⟨p, hs, ht⟩ := h
  obtain ⟨ok, hu, ht, hx⟩ := ht.up hX
  have hcs := hs.cells
  have hp := put_any hc x false sb T w p ok hu ht hcs.1 hz
  obtain ⟨R, hR⟩ : ∃ R, T.put f x false = R := ⟨_, rfl⟩
  rw [hR] at hp ⊢
  go_enter Try.func37, Try.ntmps37
  go_wp2_with (go_at_call 67; (with_reducible refine hp.mono ?_); rintro e w2 ⟨q, rfl, hq, hb1⟩; have hc2 := (hs.later hb1).cells)
  go_ret
  have hcg : Chg (only sb) w (w2.setCell ⟨sb, 1, none⟩ (.pointer q)) := hb1.chg.trans (Chg.set _ _ rfl)
  exact ⟨rfl, ⟨q, (hs.later hb1).set, ok, hq.keep (Keeps.set _ _ (hx _ hsb)), hx⟩, hcg⟩
set_option maxRecDepth 100000 in
set_option maxHeartbeats 8000000 in
theorem remove_any {X : Nat → Prop} {c : Nat} {f : ByteArray → ByteArray → Int} (hc : Comp c f) (x : ByteArray) {w : World} {sb : Nat} {T : Tr ByteArray} (h : Shf X w sb c T) (hX : ∀ b, X b → b < w.heap.size) (hsb : X sb) (hz : T.size + 1 ≤ 4611686018427387904) :
    Calls Try.prog 43 #[.pointer (some ⟨sb, 0, none⟩), .string x] w fun e w' => e = .returned (.bool ((T.out f x).2)) ∧ Shf X w' sb c (T.out f x).1 ∧ Chg (only sb) w w' := by
  obtain ⟨p, hs, ht⟩ := h
  obtain ⟨ok, hu, ht, hx⟩ := ht.up hX
  have hcs := hs.cells
  have hp := out_any hc x sb T w p ok hu ht hcs.1 hz
  obtain ⟨R, hR⟩ : ∃ R, T.out f x = R := ⟨_, rfl⟩
  rw [hR] at hp ⊢
  go_enter Try.func43, Try.ntmps43
  go_wp2_with (go_at_call 76; (with_reducible refine hp.mono ?_); rintro e w2 ⟨q, rfl, hq, hb1⟩; have hc2 := (hs.later hb1).cells)
  go_ret
  have hcg : Chg (only sb) w (w2.setCell ⟨sb, 1, none⟩ (.pointer q)) := hb1.chg.trans (Chg.set _ _ rfl)
  exact ⟨rfl, ⟨q, (hs.later hb1).set, ok, hq.keep (Keeps.set _ _ (hx _ hsb)), hx⟩, hcg⟩
theorem len_any {X : Nat → Prop} {c : Nat} {w : World} {sb : Nat} {T : Tr ByteArray} (h : Shf X w sb c T) :
    Calls Try.prog 41 #[.pointer (some ⟨sb, 0, none⟩)] w fun e w' => e = .returned (.int .i64 T.size) ∧ w = w' := by
  obtain ⟨p, hs, ok, ht, hx⟩ := h
  have hcs := hs.cells
  go_enter Try.func41, Try.ntmps41
  go_wp2_with (go_at_call 75; (with_reducible refine (count_any ht).mono ?_); rintro e w' ⟨rfl, rfl⟩)
  go_ret
  exact ⟨rfl, rfl⟩
def opt (y : Option ByteArray) : Value := .tuple #[.string (y.getD ByteArray.empty), .bool y.isSome]
set_option maxRecDepth 100000 in
set_option maxHeartbeats 8000000 in
theorem find_any {X : Nat → Prop} {c : Nat} {f : ByteArray → ByteArray → Int} (hc : Comp c f) (x : ByteArray) {w : World} {sb : Nat} {T : Tr ByteArray} (h : Shf X w sb c T) :
    Calls Try.prog 44 #[.pointer (some ⟨sb, 0, none⟩), .string x] w fun e w' => e = .returned (opt (T.find f x)) ∧ Later w w' := by
  obtain ⟨p, hs, ok, ht, hx⟩ := h
  obtain ⟨R, hR⟩ : ∃ R, opt (T.find f x) = R := ⟨_, rfl⟩
  rw [hR]
  have HR := hid hR
  have hcs := hs.cells
  have hsc : ∀ W', Later w W' → W'.cell? ⟨sb, 0, none⟩ = some (.func (.func c) #[] #[]) ∧ W'.cell? ⟨sb, 1, none⟩ = some (.pointer p) := fun W' k => ⟨(hs.later k).cells.1, (hs.later k).cells.2.1⟩
  have hen := hc.enters
  have hcc := hc.calls
  have hb0 := Later.refl w
  clear hR
  go_enter Try.func44, Try.ntmps44
  go_wp2_with fail
  go_loopg [6] (T.size + 1) (fun k v wr => ∃ T' pp, v = .pointer pp ∧ IsT ok wr pp T' ∧ Hid (T.find f x = T'.find f x) ∧ Later w wr ∧ T'.size < k)
  case atStart => exact ⟨T, p, rfl, ht, hid rfl, hb0, Nat.lt_succ_self _⟩
  case round =>
    obtain ⟨T', pp, rfl, ht, hf, hl, hk⟩ := hrel
    clear hcs
    cases T' with
    | leaf =>
      obtain rfl : pp = none := ht
      have hre : R = opt none := by rw [← HR.out, hf.out]; rfl
      have HRE := hid hre
      clear hf hk hre HR
      go_wp2_with fail
      go_ret2
      exact ⟨by rw [HRE.out]; rfl, hl.alloc _⟩
    | node l y r =>
      obtain ⟨b, pl, pr, rfl, hb, hcn, hlt, hrt⟩ := IsT.node ht
      have hsc' : ∀ W', Later wr W' → W'.cell? ⟨sb, 0, none⟩ = some (.func (.func c) #[] #[]) := fun W' k => (hsc W' (hl.next k)).1
      have hbr := Later.refl wr
      have hk2 : l.size + r.size + 1 < gk := hk
      clear hsc hb0 hk ht
      by_cases h1 : f x y < 0
      · have hf' : Hid (T.find f x = l.find f x) := hid (by rw [hf.out]; simp only [Tr.find]; rw [if_pos h1])
        clear hf
        go_wp2_with fail
        go_region_held3 (fun W' => Later wr W') (first | assumption | exact Later.drew (by assumption) | exact Later.next (by assumption) hb1) (first | ((with_reducible refine (hcc _ _ _).mono ?_); rintro e w1 ⟨rfl, hb1⟩))
        go_wp2_with fail
        go_roundg (l.size + 1)
        case measure => omega
        case rel => exact ⟨l, pl, rfl, hlt _ (by assumption), hf', hl.next (by assumption), Nat.lt_succ_self _⟩
      · by_cases h2 : 0 < f x y
        · have hf' : Hid (T.find f x = r.find f x) := hid (by rw [hf.out]; simp only [Tr.find]; rw [if_neg h1, if_pos h2])
          clear hf
          go_wp2_with fail
          go_region_held3 (fun W' => Later wr W') (first | assumption | exact Later.drew (by assumption) | exact Later.next (by assumption) hb1) (first | ((with_reducible refine (hcc _ _ _).mono ?_); rintro e w1 ⟨rfl, hb1⟩))
          go_wp2_with fail
          go_roundg (r.size + 1)
          case measure => omega
          case rel => exact ⟨r, pr, rfl, hrt _ (by assumption), hf', hl.next (by assumption), Nat.lt_succ_self _⟩
        · have hf' : Hid (R = opt (some y)) := hid (by rw [← HR.out, hf.out]; simp only [Tr.find]; rw [if_neg h1, if_neg h2])
          clear hf HR
          go_wp2_with fail
          go_region_held3 (fun W' => Later wr W') (first | assumption | exact Later.drew (by assumption) | exact Later.next (by assumption) hb1) (first | ((with_reducible refine (hcc _ _ _).mono ?_); rintro e w1 ⟨rfl, hb1⟩))
          go_wp2_with fail
          go_ret2
          exact ⟨by rw [hf'.out]; rfl, hl.next (show Later wr _ by assumption)⟩
end Go.Proofs.Yteledidnhjioaaa.St
