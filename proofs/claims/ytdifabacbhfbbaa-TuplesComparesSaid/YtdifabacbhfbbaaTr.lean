import Derived.Test.YtdifabacbhfbbaaTq
namespace Go.Proofs.Ytdifabacbhfbbaa.Tu
open Go.RowKit Go.Lib Go.Proofs
set_option linter.unusedVariables false
set_option linter.unusedSimpArgs false
/-! ### may a value be? -/
def smallV (text : ByteArray) (l : List ByteArray) : Bool := decide (text.size ≤ 256) && decide (l.length ≤ 32) && l.all fun s => decide (s.size ≤ 256)
def nB (i : Int) : Bool := i != 0
def rB (r : Nat) : Bool := FloatKind.f32.format.order r 0 != some Ordering.eq
def tB (t : ByteArray) : Bool := !t.toList.isEmpty
def lB (l : List ByteArray) : Bool := decide (0 < l.length)
def kindV (kind : Int) (b i r t l : Bool) : Bool :=
  if kind = 1 then !(i || r || t || l) else if kind = 2 then !(b || r || t || l) else if kind = 3 then !(b || i || t || l) else if kind = 4 then !(b || i || r || l) else if kind = 5 then !(b || i || r || t) else false
def okV (kind : Int) (b : Bool) (i : Int) (r : Nat) (text : ByteArray) (l : List ByteArray) : Bool := smallV text l && kindV kind b (nB i) (rB r) (tB text) (lB l)
def errV (o : Bool) : Int := if o = true then 0 else 40
set_option maxHeartbeats 8000000 in
set_option maxRecDepth 100000 in
theorem check_any (kind : Int) (b : Bool) (i : Int) (r : Nat) (text : ByteArray) {l : List ByteArray} {w : World} {A : Option Addr} {n c : Nat} (hA : TxtAt w A l) (hn : l.length = n) (hz : n ≤ 8796093022080) :
    Calls Try.prog 49 #[.agg #[.int .i64 kind, .bool b, .int .i64 i, .float .f32 r, .string text, .slice A n c]] w fun e w' => e = .returned (.int .i64 (errV (okV kind b i r text l))) ∧ Later w w' := by
  obtain ⟨R, hR⟩ : ∃ R, errV (okV kind b i r text l) = R := ⟨_, rfl⟩
  rw [hR]
  have hw1 : Later w (w.alloc (.cells #[.int .i64 kind, .bool b, .int .i64 i, .float .f32 r, .string text, .slice A n c] 48)) := (Later.refl w).alloc _
  have hcl := cells_at w [.int .i64 kind, .bool b, .int .i64 i, .float .f32 r, .string text, .slice A n c] 48
  have hc : ∀ V, Later (w.alloc (.cells #[.int .i64 kind, .bool b, .int .i64 i, .float .f32 r, .string text, .slice A n c] 48)) V → V.cell? ⟨w.heap.size, 0, none⟩ = some (.int .i64 kind) ∧ V.cell? ⟨w.heap.size, 1, none⟩ = some (.bool b) ∧ V.cell? ⟨w.heap.size, 2, none⟩ = some (.int .i64 i) ∧ V.cell? ⟨w.heap.size, 3, none⟩ = some (.float .f32 r) ∧ V.cell? ⟨w.heap.size, 4, none⟩ = some (.string text) ∧ V.cell? ⟨w.heap.size, 5, none⟩ = some (.slice A n c) := fun V l =>
    ⟨l.cell (hcl 0 _ rfl), l.cell (hcl 1 _ rfl), l.cell (hcl 2 _ rfl), l.cell (hcl 3 _ rfl), l.cell (hcl 4 _ rfl), l.cell (hcl 5 _ rfl)⟩
  clear hcl
  go_enter Try.func49, Try.ntmps49
  go_upto_region 1 with fail
  generalize w.alloc (.cells #[.int .i64 kind, .bool b, .int .i64 i, .float .f32 r, .string text, .slice A n c] 48) = W1 at hc hw1 ⊢
  obtain ⟨p0, p1, p2, p3, p4, p5⟩ := hc W1 (Later.refl _)
  by_cases h1 : text.size ≤ 256
  · by_cases h2 : n ≤ 32
    · have d1 : decide (256 < text.size) = false := by simp; omega
      have d2 : decide (32 < n) = false := by simp; omega
      go_wp2_with fail
      go_loopw [23] (fun i' wr => ∃ k : Nat, k ≤ n ∧ i' = .int .i64 k ∧ Hid (∀ j s, j < k → l[j]? = some s → s.size ≤ 256) ∧ Later W1 wr) (fun i' _ => n - (intOf i').toNat)
      case atStart => exact ⟨0, Nat.zero_le _, rfl, hid (fun j s hj => by omega), Later.refl _⟩
      case round =>
        obtain ⟨k, hk, rfl, hsm, lk⟩ := hrel
        by_cases hlt : k < n
        · cases hs : l[k]? with
          | none => exact absurd (List.getElem?_eq_none_iff.1 hs) (by omega)
          | some s =>
            obtain ⟨bb, oo, rfl, c0⟩ := hA.later (hw1.next lk) k s hs
            have hs' : Hid (l[k]? = some s) := hid hs
            clear hs
            by_cases h3 : s.size ≤ 256
            · have d3 : decide (256 < s.size) = false := by simp; omega
              have hn2 : Hid (∀ j s, j < k + 1 → l[j]? = some s → s.size ≤ 256) := hid (fun j s' hj hj2 => by
                by_cases hjk : j < k
                · exact hsm.out j s' hjk hj2
                · obtain rfl : j = k := by omega
                  rw [hs'.out] at hj2
                  injection hj2 with hj2
                  rw [← hj2]
                  exact h3)
              go_wp2_with fail
              go_roundw
              case rel => exact ⟨k + 1, by omega, by go_num, hn2, lk⟩
              case measure => simp [intOf]; omega
            · have hr : Hid (R = 40) := hid (by
                rw [← hR]
                have : smallV text l = false := by
                  unfold smallV
                  rw [Bool.and_eq_false_iff]
                  right
                  rw [List.all_eq_false]
                  exact ⟨s, List.mem_of_getElem? hs'.out, by simp; omega⟩
                simp [errV, okV, this])
              have d3 : decide (256 < s.size) = true := by simp; omega
              clear hR
              go_wp2_with fail
              go_ret
              exact ⟨by rw [hr.out]; rfl, hw1.next lk⟩
        · obtain rfl : k = n := by omega
          have hr : Hid (R = errV (kindV kind b (nB i) (rB r) (tB text) (lB l))) := hid (by
            rw [← hR]
            have : smallV text l = true := by
              unfold smallV
              rw [Bool.and_eq_true, Bool.and_eq_true]
              refine ⟨⟨decide_eq_true h1, decide_eq_true (by omega)⟩, List.all_eq_true.2 fun s hs => ?_⟩
              obtain ⟨j, hj⟩ := List.mem_iff_getElem?.1 hs
              exact decide_eq_true (hsm.out j s (by have := (List.getElem?_eq_some_iff.1 hj).1; omega) hj)
            simp [okV, this])
          clear hR hsm
          obtain ⟨q0, q1, q2, q3, q4, q5⟩ := hc _ lk
          go_upto_region 9 with fail
          go_quiet (fail)
          have lq : Later W1 (wr.drewN nq) := Below.trans lk (below_drewN (Below.refl _ _) _)
          obtain ⟨z0, z1, z2, z3, z4, z5⟩ := hc _ lq
          generalize wr.drewN nq = W2 at lq z0 z1 z2 z3 z4 z5 ⊢
          clear q0 q1 q2 q3 q4 q5 p0 p1 p2 p3 p4 p5 hc lk
          unfold nB rB tB lB at hr
          rw [hn] at hr
          generalize (i != 0) = vi at hr ⊢
          generalize (FloatKind.f32.format.order r 0 != some Ordering.eq) = vr at hr ⊢
          generalize (!text.toList.isEmpty) = vt at hr ⊢
          generalize decide (0 < k) = vl at hr ⊢
          have fin : Later w W2 := hw1.next lq
          by_cases k1 : kind = 1
          · subst k1
            have hr2 : Hid (R = errV (!(vi || vr || vt || vl))) := hid (by rw [hr.out]; simp [kindV])
            clear hr
            go_wp2_with fail
            all_goals
              go_ret
              exact ⟨by rw [hr2.out]; simp_all [errV], fin⟩
          · have e1 : (kind == 1) = false := by simp [k1]
            by_cases k2 : kind = 2
            · subst k2
              have hr2 : Hid (R = errV (!(b || vr || vt || vl))) := hid (by rw [hr.out]; simp [kindV])
              clear hr
              go_wp2_with fail
              all_goals
                go_ret
                exact ⟨by rw [hr2.out]; simp_all [errV], fin⟩
            · have e2 : (kind == 2) = false := by simp [k2]
              by_cases k3 : kind = 3
              · subst k3
                have hr2 : Hid (R = errV (!(b || vi || vt || vl))) := hid (by rw [hr.out]; simp [kindV])
                clear hr
                go_wp2_with fail
                all_goals
                  go_ret
                  exact ⟨by rw [hr2.out]; simp_all [errV], fin⟩
              · have e3 : (kind == 3) = false := by simp [k3]
                by_cases k4 : kind = 4
                · subst k4
                  have hr2 : Hid (R = errV (!(b || vi || vr || vl))) := hid (by rw [hr.out]; simp [kindV])
                  clear hr
                  go_wp2_with fail
                  all_goals
                    go_ret
                    exact ⟨by rw [hr2.out]; simp_all [errV], fin⟩
                · have e4 : (kind == 4) = false := by simp [k4]
                  by_cases k5 : kind = 5
                  · subst k5
                    have hr2 : Hid (R = errV (!(b || vi || vr || vt))) := hid (by rw [hr.out]; simp [kindV])
                    clear hr
                    go_wp2_with fail
                    all_goals
                      go_ret
                      exact ⟨by rw [hr2.out]; simp_all [errV], fin⟩
                  · have e5 : (kind == 5) = false := by simp [k5]
                    have hr2 : Hid (R = 40) := hid (by rw [hr.out]; simp [kindV, errV, k1, k2, k3, k4, k5])
                    clear hr k1 k2 k3 k4 k5
                    go_wp2_with fail
                    all_goals
                      go_ret
                      exact ⟨by rw [hr2.out]; rfl, fin⟩
    · have hr : Hid (R = 40) := hid (by rw [← hR]; simp [errV, okV, smallV, hn, h2])
      have d1 : decide (256 < text.size) = false := by simp; omega
      have d2 : decide (32 < n) = true := by simp; omega
      clear hR
      go_wp2_with fail
      go_ret
      exact ⟨by rw [hr.out]; rfl, hw1⟩
  · have hr : Hid (R = 40) := hid (by rw [← hR]; simp [errV, okV, smallV, h1])
    have d1 : decide (256 < text.size) = true := by simp; omega
    clear hR
    go_wp2_with fail
    go_ret
    exact ⟨by rw [hr.out]; rfl, hw1⟩
end Go.Proofs.Ytdifabacbhfbbaa.Tu
