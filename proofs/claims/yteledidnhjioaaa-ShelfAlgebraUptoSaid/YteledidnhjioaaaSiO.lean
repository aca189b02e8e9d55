import Derived.Test.YteledidnhjioaaaSiM
namespace Go.Proofs.Yteledidnhjioaaa.Sh
open Go.RowKit Go.Lib Go.Proofs Go.Shelf
set_option linter.unusedVariables false
set_option linter.unusedSimpArgs false
/-- a side at D: l is left of it, x is its next one if ok; what is left lies in blocks P -/
def Side (P : Nat → Prop) (W : World) (D : Nat) (l : List (Int × Int)) (x : Int × Int) (ok : Bool) : Prop :=
  ∃ A cap, W.heap[D]? = some (.cells #[.slice A l.length cap, .int .i64 x.1, .int .i64 x.2, .bool ok] 115 (0, 0)) ∧ SliceAt W A cap l ∧ ∀ b o, A = some ⟨b, o, none⟩ → l ≠ [] → P b
theorem Side.chg {P Y : Nat → Prop} {W V : World} {D : Nat} {l : List (Int × Int)} {x : Int × Int} {ok : Bool} (h : Side P W D l x ok) (c : Chg Y W V) (hD : ¬ Y D) (hP : ∀ b, P b → ¬ Y b) : Side P V D l x ok := by
  obtain ⟨A, cap, h1, h2, h3⟩ := h
  exact ⟨A, cap, (c.block D (Array.getElem?_eq_some_iff.1 h1).1 hD).trans h1, slice_keep h2 c (fun f o e h0 => hP f (h3 f o e h0)), h3⟩
theorem Side.more {P Q : Nat → Prop} {W : World} {D : Nat} {l : List (Int × Int)} {x : Int × Int} {ok : Bool} (h : Side P W D l x ok) (k : ∀ b, P b → Q b) : Side Q W D l x ok := by
  obtain ⟨A, cap, h1, h2, h3⟩ := h
  exact ⟨A, cap, h1, h2, fun b o e h0 => k b (h3 b o e h0)⟩
theorem Side.lt {P : Nat → Prop} {W : World} {D : Nat} {l : List (Int × Int)} {x : Int × Int} {ok : Bool} (h : Side P W D l x ok) : D < W.heap.size := by
  obtain ⟨A, cap, h1, _⟩ := h; exact (Array.getElem?_eq_some_iff.1 h1).1
/-- behind a step -/
def Stepped (P : Nat → Prop) (W : World) (D : Nat) (x : Int × Int) : List (Int × Int) → Prop
  | [] => Side P W D [] x false
  | y :: r => Side P W D r y true
set_option maxRecDepth 100000 in
set_option maxHeartbeats 8000000 in
theorem step_any {P : Nat → Prop} {W : World} {D : Nat} {l : List (Int × Int)} {x : Int × Int} {ok : Bool} (h : Side P W D l x ok) (hP : ¬ P D) (hz : l.length ≤ 4611686018427387904) :
    Calls Try.prog 81 #[.pointer (some ⟨D, 0, none⟩)] W fun e V => (∃ v, e = .returned v) ∧ Chg (only D) W V ∧ Stepped P V D x l := by
  obtain ⟨A, cap, hD, hs, hA⟩ := h
  have hcap := hs.1
  have q0 : W.cell? ⟨D, 0, none⟩ = some (.slice A l.length cap) := by simp [World.cell?, hD]
  have q1 : W.cell? ⟨D, 1, none⟩ = some (.int .i64 x.1) := by simp [World.cell?, hD]
  have q2 : W.cell? ⟨D, 2, none⟩ = some (.int .i64 x.2) := by simp [World.cell?, hD]
  have q3 : W.cell? ⟨D, 3, none⟩ = some (.bool ok) := by simp [World.cell?, hD]
  have f0 : W.frozen? ⟨D, 0, none⟩ = false := by simp [World.frozen?, hD]
  have f1 : W.frozen? ⟨D, 1, none⟩ = false := by simp [World.frozen?, hD]
  have f2 : W.frozen? ⟨D, 2, none⟩ = false := by simp [World.frozen?, hD]
  have f3 : W.frozen? ⟨D, 3, none⟩ = false := by simp [World.frozen?, hD]
  cases l with
  | nil =>
    go_enter Try.func81, Try.ntmps81
    go_wp2_with fail
    go_end0
    refine ⟨⟨_, rfl⟩, Chg.set _ _ rfl, A, cap, ?_, ⟨hs.1, hs.2.1, fun i y h => by simp at h⟩, fun b o e h => absurd rfl h⟩
    simp [World.setCell, Array.getElem?_modify, hD]
  | cons y r =>
    obtain ⟨b, o, rfl, c0, c1⟩ := hs.2.2 0 y rfl
    rw [Nat.zero_mul, Nat.add_zero] at c0 c1
    have hPb : P b := hA b o rfl (by simp)
    have hbD : b ≠ D := fun e => hP (e ▸ hPb)
    go_enter Try.func81, Try.ntmps81
    go_upto_region 2 with fail
    have hW1 : (W.setCell ⟨D, 3, none⟩ (.bool true)).heap[D]? = some (.cells #[.slice (some ⟨b, o, none⟩) (r.length + 1) cap, .int .i64 x.1, .int .i64 x.2, .bool true] 115 (0, 0)) := by simp [World.setCell, Array.getElem?_modify, hD]
    have cW : Chg (only D) W (W.setCell ⟨D, 3, none⟩ (.bool true)) := Chg.set _ _ rfl
    have hs1 := slice_keep hs cW (fun f o' e _ h => by injection e with e; injection e with e _ _; have : f = D := h; exact hbD (e.trans this))
    have d0 := cW.cell c0 hbD
    have d1 := cW.cell c1 hbD
    clear q0 q1 q2 q3 f0 f1 f2 f3 c0 c1
    generalize W.setCell ⟨D, 3, none⟩ (.bool true) = W1 at hW1 cW hs1 d0 d1 ⊢
    have q0 : W1.cell? ⟨D, 0, none⟩ = some (.slice (some ⟨b, o, none⟩) (r.length + 1) cap) := by simp [World.cell?, hW1]
    have q1 : W1.cell? ⟨D, 1, none⟩ = some (.int .i64 x.1) := by simp [World.cell?, hW1]
    have q2 : W1.cell? ⟨D, 2, none⟩ = some (.int .i64 x.2) := by simp [World.cell?, hW1]
    have f0 : W1.frozen? ⟨D, 0, none⟩ = false := by simp [World.frozen?, hW1]
    have f1 : W1.frozen? ⟨D, 1, none⟩ = false := by simp [World.frozen?, hW1]
    have f2 : W1.frozen? ⟨D, 2, none⟩ = false := by simp [World.frozen?, hW1]
    clear hs hD
    have hn1 : r.length + 1 ≤ cap := hcap
    have hn3 : r.length + 1 ≤ 4611686018427387904 := hz
    obtain ⟨n, hn⟩ : ∃ n, r.length + 1 = n := ⟨_, rfl⟩
    rw [hn] at hW1 q0 hn1 hn3 ⊢
    have hn4 : 0 < n := by omega
    have hn5 : ¬ n < 1 := by omega
    have hn6 : ¬ n ≤ 0 := by omega
    have hn7 : ¬ n = 0 := by omega
    have hn2 : 1 ≤ n := by omega
    have i1 : (1 : Int) ≤ (n : Int) := by omega
    have i2 : (n : Int) ≤ (cap : Int) := by omega
    have i3 : (0 : Int) < (n : Int) := by omega
    clear hcap hz
    replace hn := hid hn
    go_region_with fail
    all_goals
      have hr : r.length = n - 1 := by have := hn.out; omega
      have e0 : (⟨b, o, none⟩ : Addr) = ⟨b, o, none⟩ := rfl
      go_end0
      refine ⟨⟨_, rfl⟩, cW.trans (by repeat (first | exact Chg.set (X := only D) _ _ rfl | exact Later.chg (Later.drew (Later.refl _)) | refine Chg.trans ?_ (Chg.set (X := only D) _ _ rfl) | refine Chg.trans ?_ (Later.chg (Later.drew (Later.refl _))))), (if cap = 1 then some ⟨b, o, none⟩ else some ⟨b, o + 2, none⟩), cap - 1, ?_, ⟨by omega, by omega, fun i z hz => ?_⟩, fun b' o' e _ => ?_⟩
      · simp [World.setCell, World.drew, Array.getElem?_modify, hW1, hr]
      · obtain ⟨b', o', e, k0, k1⟩ := hs1.2.2 (i + 1) z hz
        injection e with e; injection e with e1 e2 _
        subst e1 e2
        have hc1 : ¬ cap = 1 := fun e => by have := (List.getElem?_eq_some_iff.1 hz).1; omega
        rw [if_neg hc1]
        refine ⟨b, o + 2, rfl, ?_, ?_⟩
        · rw [show o + 2 + i * 2 = o + (i + 1) * 2 by omega]
          exact Chg.cell (X := only D) (by repeat (first | exact Chg.set (X := only D) _ _ rfl | exact Later.chg (Later.drew (Later.refl _)) | refine Chg.trans ?_ (Chg.set (X := only D) _ _ rfl) | refine Chg.trans ?_ (Later.chg (Later.drew (Later.refl _))))) k0 hbD
        · rw [show o + 2 + i * 2 + 1 = o + (i + 1) * 2 + 1 by omega]
          exact Chg.cell (X := only D) (by repeat (first | exact Chg.set (X := only D) _ _ rfl | exact Later.chg (Later.drew (Later.refl _)) | refine Chg.trans ?_ (Chg.set (X := only D) _ _ rfl) | refine Chg.trans ?_ (Later.chg (Later.drew (Later.refl _))))) k1 hbD
      · split at e <;> (injection e with e; injection e with e1 _ _; rw [← e1]; exact hPb)
end Go.Proofs.Yteledidnhjioaaa.Sh
namespace Go.Proofs.Yteledidnhjioaaa.Sh
open Go.RowKit Go.Lib Go.Proofs Go.Shelf
set_option linter.unusedVariables false
set_option linter.unusedSimpArgs false
attribute [local go_sem] Oper.semAt_some
/-- a side that has been begun: q is to come -/
def SideQ (P : Nat → Prop) (W : World) (D : Nat) : List (Int × Int) → Prop
  | [] => ∃ x, Side P W D [] x false
  | y :: r => Side P W D r y true
theorem Stepped.q {P : Nat → Prop} {W : World} {D : Nat} {x : Int × Int} : ∀ {l : List (Int × Int)}, Stepped P W D x l → SideQ P W D l
  | [], h => ⟨x, h⟩
  | _ :: _, h => h
theorem SideQ.chg {P Y : Nat → Prop} {W V : World} {D : Nat} : ∀ {q : List (Int × Int)}, SideQ P W D q → Chg Y W V → ¬ Y D → (∀ b, P b → ¬ Y b) → SideQ P V D q
  | [], ⟨x, h⟩, c, hD, hP => ⟨x, h.chg c hD hP⟩
  | _ :: _, h, c, hD, hP => Side.chg h c hD hP
theorem Side.more' {P Q : Nat → Prop} {W : World} {D : Nat} {l : List (Int × Int)} {x : Int × Int} {ok : Bool} (h : Side P W D l x ok) (k : ∀ b, P b → b < W.heap.size → Q b) : Side Q W D l x ok := by
  obtain ⟨A, cap, h1, h2, h3⟩ := h
  refine ⟨A, cap, h1, h2, fun b o e h0 => k b (h3 b o e h0) ?_⟩
  cases l with
  | nil => exact absurd rfl h0
  | cons y r =>
    obtain ⟨b', o', e', c0, _⟩ := h2.2.2 0 y rfl
    rw [e] at e'; injection e' with e'; injection e' with e1 _ _
    rw [e1]; exact cell_lt c0
theorem SideQ.more' {P Q : Nat → Prop} {W : World} {D : Nat} : ∀ {q : List (Int × Int)}, SideQ P W D q → (∀ b, P b → b < W.heap.size → Q b) → SideQ Q W D q
  | [], ⟨x, h⟩, k => ⟨x, h.more' k⟩
  | _ :: _, h, k => Side.more' h k
theorem SideQ.lt {P : Nat → Prop} {W : World} {D : Nat} : ∀ {q : List (Int × Int)}, SideQ P W D q → D < W.heap.size
  | [], ⟨x, h⟩ => h.lt
  | _ :: _, h => Side.lt h
theorem step_q {P : Nat → Prop} {W : World} {D : Nat} {q : List (Int × Int)} (h : SideQ P W D q) (hP : ¬ P D) (hz : q.length ≤ 4611686018427387904) :
    Calls Try.prog 81 #[.pointer (some ⟨D, 0, none⟩)] W fun e V => (∃ v, e = .returned v) ∧ Chg (only D) W V ∧ SideQ P V D q.tail := by
  cases q with
  | nil => obtain ⟨x, h⟩ := h; exact (step_any h hP (by simp)).mono fun e V ⟨h1, h2, h3⟩ => ⟨h1, h2, h3.q⟩
  | cons y r => exact (step_any h hP (by simp at hz; omega)).mono fun e V ⟨h1, h2, h3⟩ => ⟨h1, h2, h3.q⟩
/-- the sides that have been begun, from lo up; O: the block that their pointers lie in -/
structure Sides (lo : Nat) (O : Option Nat) (V : World) (Ds : List Nat) (qs : List (List (Int × Int))) : Prop where
  len : Ds.length = qs.length
  nodup : Ds.Nodup
  ge : ∀ D ∈ Ds, lo ≤ D
  at_ : ∀ (j D : Nat) (q : List (Int × Int)), Ds[j]? = some D → qs[j]? = some q → SideQ (fun b => lo ≤ b ∧ b ∉ Ds ∧ O ≠ some b) V D q
theorem SideQ.cells {P : Nat → Prop} {W : World} {D : Nat} : ∀ {q : List (Int × Int)}, SideQ P W D q → ∃ cs f, W.heap[D]? = some (.cells cs 115 f)
  | [], ⟨x, A, cap, h, _⟩ => ⟨_, _, h⟩
  | _ :: _, ⟨A, cap, h, _⟩ => ⟨_, _, h⟩
theorem Sides.cells {lo : Nat} {O : Option Nat} {V : World} {Ds : List Nat} {qs : List (List (Int × Int))} (h : Sides lo O V Ds qs) : ∀ D ∈ Ds, ∃ cs f, V.heap[D]? = some (.cells cs 115 f) := by
  intro D hD
  obtain ⟨j, hj⟩ := List.getElem?_of_mem hD
  obtain ⟨q, hq⟩ : ∃ q, qs[j]? = some q := ⟨_, List.getElem?_eq_getElem (by rw [← h.len]; exact (List.getElem?_eq_some_iff.1 hj).1)⟩
  exact (h.at_ j D q hj hq).cells
theorem Sides.lt {lo : Nat} {O : Option Nat} {V : World} {Ds : List Nat} {qs : List (List (Int × Int))} (h : Sides lo O V Ds qs) : ∀ D ∈ Ds, D < V.heap.size := by
  intro D hD
  obtain ⟨cs, f, h⟩ := h.cells D hD
  exact (Array.getElem?_eq_some_iff.1 h).1
/-- a change that spares what lies from lo up; or the pointers' own block alone -/
theorem Sides.chg {lo : Nat} {O : Option Nat} {Y : Nat → Prop} {W V : World} {Ds : List Nat} {qs : List (List (Int × Int))} (h : Sides lo O W Ds qs) (c : Chg Y W V) (hY : ∀ b, lo ≤ b → b < W.heap.size → O ≠ some b → ¬ Y b) (hO : ∀ D ∈ Ds, O ≠ some D) : Sides lo O V Ds qs :=
  ⟨h.len, h.nodup, h.ge, fun j D q hj hq => ((h.at_ j D q hj hq).more' (Q := fun b => (lo ≤ b ∧ b ∉ Ds ∧ O ≠ some b) ∧ b < W.heap.size) (fun b h1 h2 => ⟨h1, h2⟩) |>.chg c (hY D (h.ge D (List.mem_of_getElem? hj)) (h.at_ j D q hj hq).lt (hO D (List.mem_of_getElem? hj))) (fun b hb => hY b hb.1.1 hb.2 hb.1.2.2)).more' fun b hb _ => hb.1⟩
theorem Sides.owner {lo : Nat} {O O' : Option Nat} {V : World} {Ds : List Nat} {qs : List (List (Int × Int))} (h : Sides lo O V Ds qs) (hO : ∀ b, b < V.heap.size → O ≠ some b → O' ≠ some b) : Sides lo O' V Ds qs :=
  ⟨h.len, h.nodup, h.ge, fun j D q hj hq => (h.at_ j D q hj hq).more' fun b hb hlt => ⟨hb.1, hb.2.1, hO b hlt hb.2.2⟩⟩
theorem Sides.snoc {lo : Nat} {O : Option Nat} {V U : World} {Ds : List Nat} {qs : List (List (Int × Int))} {D : Nat} {q : List (Int × Int)} {Y : Nat → Prop} (h : Sides lo O U Ds qs) (c : Chg Y U V) (hY : ∀ b, lo ≤ b → b < U.heap.size → ¬ Y b) (hs : SideQ (fun b => D < b) V D q) (hD : D = U.heap.size) (hlo : lo ≤ D) (hO : ∀ b, O = some b → b < D) : Sides lo O V (Ds ++ [D]) (qs ++ [q]) := by
  have hb := h.lt
  refine ⟨by simp [h.len], ?_, ?_, fun j E p hj hq => ?_⟩
  · rw [List.nodup_append]
    exact ⟨h.nodup, by simp, fun a ha b hb' => by simp at hb'; have := hb a ha; omega⟩
  · intro E hE
    rcases List.mem_append.1 hE with hE | hE
    · exact h.ge E hE
    · simp at hE; omega
  · by_cases hlt : j < Ds.length
    · rw [List.getElem?_append_left hlt] at hj
      rw [List.getElem?_append_left (by rw [← h.len]; exact hlt)] at hq
      refine (((h.at_ j E p hj hq).more' (Q := fun b => (lo ≤ b ∧ b ∉ Ds ∧ O ≠ some b) ∧ b < U.heap.size) (fun b h1 h2 => ⟨h1, h2⟩)).chg c (hY E (h.ge E (List.mem_of_getElem? hj)) (h.at_ j E p hj hq).lt) (fun b hb => hY b hb.1.1 hb.2)).more' fun b hb' _ => ⟨hb'.1.1, ?_, hb'.1.2.2⟩
      rw [List.mem_append]
      rintro (hm | hm)
      · exact hb'.1.2.1 hm
      · simp at hm; have := hb'.2; omega
    · have hje : j = Ds.length := by have := (List.getElem?_eq_some_iff.1 hj).1; simp at this; omega
      subst hje
      simp at hj
      rw [h.len] at hq
      simp at hq
      subst hj hq
      refine hs.more' fun b hb' _ => ⟨by omega, ?_, fun e => by have := hO b e; omega⟩
      rw [List.mem_append]
      rintro (hm | hm)
      · have := hb b hm; omega
      · simp at hm; omega
theorem info113 : (Try.prog.info? 113).map (fun i => (i.zero, i.size, i.bytes)) = some (some (.pointer none), 1, 8) := by kernel_rfl
theorem underlying112 : Try.prog.underlying 112 = some (.slice 113) := by kernel_rfl
abbrev ptrV (D : Nat) : Value := .pointer (some ⟨D, 0, none⟩)
theorem append_ptr {ops : Array Oper} {rest : List Oper} {o : Oper} {a : Act} {Q : Exit → Act → World → Prop} {W : World} {s t : Operand} {base g0 D : Nat} {v : Value} {Ds : List Nat} (hg : o.guard = none)
    (hop : o.op = Op.call { callee := Callee.builtin Builtin.append, args := #[s, t], argTypes := #[112, 112] }) (hs : a.eval s = v) (hx : a.eval t = .slice (some ⟨g0, 0, none⟩) 1 1) (hown : W.ownsRow base 113 1 v Ds.length (Ds.map ptrV))
    (hc : W.cell? ⟨g0, 0, none⟩ = some (ptrV D)) (hz : Ds.length ≤ 1000) (hb : base ≤ W.heap.size)
    (hK : ∀ g cap w', w'.ownsRow base 113 1 (.slice (some ⟨g, 0, none⟩) (Ds.length + 1) cap) (Ds ++ [D]).length ((Ds ++ [D]).map ptrV) → W.grownBy w' v.ownBlock → (v.ownBlock = some g ∨ W.heap.size ≤ g) → wpList Try.prog ops Q rest (a.put o.dst (.slice (some ⟨g, 0, none⟩) (Ds.length + 1) cap)) w') : wpList Try.prog ops Q (o :: rest) a W := by
  refine wpList_plain hg fun K hK' => ?_
  obtain ⟨i0, hi, hz0, hz1, hz2⟩ := info_parts info113
  have hnews : ∀ j u, [ptrV D][j]? = some u → W.cell? ((⟨g0, 0, none⟩ : Addr).add j) = some u := by
    intro j u hj
    match j, hj with
    | 0, hj => cases hj; rw [addr_plus]; exact hc
    | j + 1, hj => simp at hj
  obtain ⟨g, cap, w', hr, h2, h3, h4, h5⟩ := run_append_lies (P := Try.prog) W 112 o.type base 113 i0 (.pointer none) 1 8 underlying112 hi hz0 hz1 hz2 rfl (by decide) v Ds.length (Ds.map ptrV) hown ⟨g0, 0, none⟩ 1 1 [ptrV D] rfl hnews (by simp [Value.oneCell']) (by decide) (by unfold maxLen; omega) (by omega) hb W.heap.size rfl
  unfold Oper.wp execOp
  simp only [hop, resolve, invoke, builtin, Sem.run_bind, Sem.run_pure, Result.andThen_ok, List.map_toArray, List.map_cons, List.map_nil, hs, hx, hr]
  exact hK' _ _ (hK g cap w' (by rw [List.length_append, List.length_singleton, List.map_append]; exact h2) h3 (h4.imp_right fun e => by omega))
theorem neF29 (g : Nat) (lb : Array Value) (w : World) : (binOp .neq 29 (.func (.func g) #[] lb) .nilFunc).run Try.prog w = .ok (.bool true) w := by kernel_rfl
theorem neN29 (w : World) : (binOp .neq 29 .nilFunc .nilFunc).run Try.prog w = .ok (.bool false) w := by kernel_rfl
theorem own_chg1 {X : Nat → Prop} {W V : World} {base n t z : Nat} {v : Value} {xs : List Value} (h : W.ownsRow base t z v n xs) (c : Chg X W V) (hx : ∀ b, v.ownBlock = some b → ¬ X b) : V.ownsRow base t z v n xs :=
  ⟨h.1, h.2.imp id fun ⟨g, cap, cur, e, h1, h2, h3⟩ => ⟨g, cap, cur, e, h1, (c.block g (Array.getElem?_eq_some_iff.1 h2).1 (hx g (by rw [e]; rfl))).trans h2, h3⟩⟩
theorem own_at {W : World} {base n t z : Nat} {v : Value} {xs : List Value} (h : W.ownsRow base t z v n xs) : ∀ b, v.ownBlock = some b → base ≤ b ∧ b < W.heap.size ∧ ∃ cur f, W.heap[b]? = some (.cells cur t f) := by
  intro b hb
  rcases h.2 with ⟨rfl, _⟩ | ⟨g, cap, cur, rfl, h1, h2, _⟩
  · cases hb
  · cases hb; exact ⟨h1, (Array.getElem?_eq_some_iff.1 h2).1, _, _, h2⟩
/-- one side more -/
theorem sides_next {Z : Nat → Prop} {W V V' V2 V3 w1 : World} {Ds : List Nat} {pv : Value} {g : Nat} {qs : List (List (Int × Int))} {xs : List (Int × Int)} {x : Int × Int} (hZ : ∀ b, Z b → b < W.heap.size) (hc : Chg (fun b => Z b ∨ W.heap.size ≤ b) W V) (hown : V.ownsRow W.heap.size 113 1 pv Ds.length (Ds.map ptrV))
    (hS : Sides W.heap.size pv.ownBlock V Ds qs) (cV : Chg (fun b => Z b ∨ V.heap.size ≤ b) V V') (c2 : Chg (only V.heap.size) V' V2) (st : Stepped (fun b => V.heap.size < b) V2 V.heap.size x xs) (l3 : Later V2 V3) (hg : V3.grownBy w1 pv.ownBlock) (hw : pv.ownBlock = some g ∨ V3.heap.size ≤ g)
    (hlt : V.heap.size < V'.heap.size) : Sides W.heap.size (some g) w1 (Ds ++ [V.heap.size]) (qs ++ [xs]) ∧ Chg (fun b => Z b ∨ W.heap.size ≤ b) W w1 := by
  have hVW : W.heap.size ≤ V.heap.size := hc.size
  have c3 : Chg (fun b => Z b ∨ V.heap.size ≤ b) V V3 := (cV.trans (c2.mono fun b h => .inr (by have : b = V.heap.size := h; omega))).trans (l3.chg)
  have s3 : SideQ (fun b => V.heap.size < b) V3 V.heap.size xs := st.q.chg (Y := fun _ => False) l3.chg (fun h => h) (fun _ _ h => h)
  have hpv : ∀ b, pv.ownBlock = some b → W.heap.size ≤ b ∧ b < V.heap.size := fun b hb => ⟨(own_at hown b hb).1, (own_at hown b hb).2.1⟩
  have S3 : Sides W.heap.size pv.ownBlock V3 (Ds ++ [V.heap.size]) (qs ++ [xs]) := hS.snoc c3 (fun b h1 h2 h => h.elim (fun h => by have := hZ b h; omega) (fun h => by omega)) s3 rfl hVW (fun b hb => (hpv b hb).2)
  have hne : ∀ D ∈ Ds ++ [V.heap.size], pv.ownBlock ≠ some D := fun D hD e => by
    rcases List.mem_append.1 hD with hm | hm
    · obtain ⟨cs, f, h1⟩ := hS.cells D hm
      obtain ⟨_, _, cur, f', h2⟩ := own_at hown D e
      rw [h1] at h2; cases h2
    · simp at hm; have := (hpv D e).2; omega
  have cg := Chg.mono (Y := fun b => pv.ownBlock = some b) (chg_grown hg) (fun b h => h)
  have S4 := S3.chg cg (fun b _ _ h1 h2 => h1 h2) hne
  refine ⟨?_, ?_⟩
  · refine ⟨S4.len, S4.nodup, S4.ge, fun j D q hj hq => ?_⟩
    have hq3 := S3.at_ j D q hj hq
    have hbd : SideQ (fun b => (W.heap.size ≤ b ∧ b ∉ Ds ++ [V.heap.size] ∧ pv.ownBlock ≠ some b) ∧ b < V3.heap.size) w1 D q := (hq3.more' (fun b h1 h2 => ⟨h1, h2⟩)).chg cg (hne D (List.mem_of_getElem? hj)) (fun b hb h => hb.1.2.2 h)
    refine hbd.more' fun b hb _ => ⟨hb.1.1, hb.1.2.1, fun e => ?_⟩
    cases e
    rcases hw with hw | hw
    · exact hb.1.2.2 hw
    · have := hb.2; omega
  · exact (hc.trans (c3.mono fun b h => h.imp id fun h => by omega)).trans (cg.mono fun b h => .inr (hpv b h).1)
end Go.Proofs.Yteledidnhjioaaa.Sh
