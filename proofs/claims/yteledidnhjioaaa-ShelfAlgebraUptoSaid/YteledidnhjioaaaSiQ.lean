import Derived.Test.YteledidnhjioaaaSiO
namespace Go.Proofs.Yteledidnhjioaaa.Sh
open Go.RowKit Go.Lib Go.Proofs Go.Shelf
set_option linter.unusedVariables false
set_option linter.unusedSimpArgs false
attribute [local go_sem] Oper.semAt_some
abbrev markV (B : Nat) : Deferred := { target := .collected B, args := #[] }
theorem leaves_marks {n lo hi : Nat} {fn : Func} {tmps : Array Value} {R : Ending → World → Prop} {Q : World → Prop} (hQ : ∀ U V, Q U → Chg (priv lo hi) U V → Q V) (hR : ∀ V, Q V → ∃ v, (results fn tmps).run Try.prog V = .ok v V ∧ R (.returned v) V) :
    ∀ (Bs : List Nat) (w : World), Bs.Nodup → (∀ B ∈ Bs, priv lo hi B ∧ w.heap[B]? = some (.deferred (some []))) → Q w → LeavesInM FW n Try.prog fn tmps R (Bs.map markV) .returning w
  | [], w, _, _, hq => hR w hq
  | B :: Bs, w, hn, hb, hq => by
    obtain ⟨h1, h2⟩ := hb B (by simp)
    rw [List.nodup_cons] at hn
    refine ⟨by simp, .inl ⟨B, _, rfl, run_takeDeferred h2, leaves_marks hQ hR Bs _ hn.2 (fun C hC => ⟨(hb C (by simp [hC])).1, ?_⟩) ?_⟩⟩
    · exact (World.putObj_heap_other (fun e => hn.1 (by subst e; exact hC))).trans (hb C (by simp [hC])).2
    · exact hQ w _ hq (chg_put w B _ h1)
/-- a sequence, or none -/
structure Sq where
  v : Value
  xs : List (Int × Int)
def SqOk (X Z : Nat → Prop) (I I' : World → Prop) (s : Sq) : Prop :=
  (s.v = .nilFunc ∧ s.xs = [] ∧ ∀ W, I W → I' W) ∨ ∃ gf lb, s.v = .func (.func gf) #[] lb ∧ (∀ args w, (callFunc gf args).run Try.prog w = .ok (.enter gf args) w) ∧ ∀ W, I W → SeqZ X Z gf lb s.xs (fun _ => I') W
/-- in a round of a side's gathering -/
def rangeI (Z : Nat → Prop) (V : World) (N hi : Nat) (pre : List (Int × Int)) (U : World) : Prop :=
  Boxed U (N + 1) 113 (ptrV N) ∧ (∃ v, U.heap[N]? = some (.cells #[v, .int .i64 0, .int .i64 0, .bool false] 115 (0, 0)) ∧ U.ownsRow (N + 2) 27 2 v pre.length (flat pre) ∧ ∀ b, v.ownBlock = some b → ¬ priv (N + 4) hi b) ∧ Chg (fun b => Z b ∨ N ≤ b) V U ∧ hi ≤ U.heap.size ∧ N + 4 ≤ hi
theorem rangeI_chg {Z : Nat → Prop} {V : World} {N hi : Nat} {pre : List (Int × Int)} {A B : World} (h : rangeI Z V N hi pre A) (c : Chg (fun b => Z b ∨ priv (N + 2 + 2) hi b) A B) (hZ : ∀ b, Z b → b < N) : rangeI Z V N hi pre B := by
  obtain ⟨h1, ⟨v, h2, h3, h4⟩, h5, h6, h7⟩ := h
  refine ⟨boxed_turn h1 c (fun e => e.elim (fun e => by have := hZ _ e; omega) (fun e => by have := e.1; omega)), ⟨v, (c.block N (Array.getElem?_eq_some_iff.1 h2).1 (fun e => e.elim (fun e => by have := hZ _ e; omega) (fun e => by have := e.1; omega))).trans h2, own_chg h3 c (fun b hb e => e.elim (fun e => by have := hZ _ e; have := own_ge h3 b hb; omega) (fun e => h4 b hb ⟨by have := e.1; omega, e.2⟩)), h4⟩, h5.trans (c.mono fun b e => e.imp id fun e => by have := e.1; omega), Nat.le_trans h6 c.size, h7⟩
theorem rangeI_own {Z : Nat → Prop} {V V0 : World} {N : Nat} (hN : V.heap.size = N) (hs : V0.heap.size = N + 2) (hi : Nat) : OwnFrom V0.heap.size (rangeI Z V N hi) := by
  intro pre A B row h hg hr
  obtain ⟨h1, ⟨v, h2, h3, h4⟩, h5, h6, h7⟩ := h
  have hne : ∀ (b : Nat) (cs : Array Value) (t : TypeId) (f : Nat × Nat), A.heap[b]? = some (.cells cs t f) → row ≠ some b := fun b cs t f hb e => by
    obtain ⟨_, o, ho, hc⟩ := hr b e
    rw [hb] at ho; cases ho; cases hc
  have c : Chg (fun b => row = some b) A B := chg_grown hg
  refine ⟨boxed_turn h1 c (hne _ _ _ _ h1), ⟨v, (c.block N (Array.getElem?_eq_some_iff.1 h2).1 (hne _ _ _ _ h2)).trans h2, own_chg h3 c (fun b hb e => by obtain ⟨_, _, cur, f, h⟩ := own_at h3 b hb; exact hne _ _ _ _ h e), h4⟩, h5.trans (c.mono fun b e => .inr (by have := (hr b e).1; omega)), Nat.le_trans h6 c.size, h7⟩
theorem rangeI_start {Z : Nat → Prop} {V V0 U : World} {N hi : Nat} (cB : Boxed V0 (N + 1) 113 (ptrV N)) (sd : V0.heap[N]? = some (.cells #[.slice none 0 0, .int .i64 0, .int .i64 0, .bool false] 115 (0, 0))) (hs : V0.heap.size = N + 2) (cV : Chg (fun b => Z b ∨ N ≤ b) V V0) (c : Chg (fun b => Z b ∨ V0.heap.size ≤ b) V0 U) (h2 : hi ≤ U.heap.size) (hZ : ∀ b, Z b → b < N) (h1 : N + 4 ≤ hi := by omega) : rangeI Z V N hi [] U :=
  ⟨boxed_turn cB c (fun e => e.elim (fun e => by have := hZ _ e; omega) (fun e => by omega)), ⟨.slice none 0 0, (c.block N (by omega) (fun e => e.elim (fun e => by have := hZ _ e; omega) (fun e => by omega))).trans sd, World.ownsRow_nil .., fun b h => by cases h⟩, cV.trans (c.mono fun b e => e.imp id fun e => by omega), h2, h1⟩
theorem range_end {Z : Nat → Prop} {W V V0 U w1 : World} {hi g cap1 capr D0 : Nat} {Ar : Option Addr} {pre : List (Int × Int)} {x : Int × Int} {o : Obj} (hVW : W.heap.size ≤ V.heap.size) (hs0 : V0.heap.size = V.heap.size + 2) (hhi : V0.heap.size + 2 ≤ hi) (ho : D0 = V0.heap.size)
    (cB : Boxed U (V.heap.size + 1) 113 (ptrV V.heap.size)) (sdU : U.heap[V.heap.size]? = some (.cells #[.slice Ar pre.length capr, .int .i64 0, .int .i64 0, .bool false] 115 (0, 0))) (hr1 : U.ownsRow (V.heap.size + 2) 27 2 (.slice Ar pre.length capr) pre.length (flat pre))
    (hv : ∀ b, (Value.slice Ar pre.length capr).ownBlock = some b → ¬ priv (V.heap.size + 4) hi b) (hc1 : Chg (fun b => Z b ∨ V.heap.size ≤ b) V U) (hz1 : hi ≤ U.heap.size) (hz2 : V.heap.size + 4 ≤ hi) (hgrow : (U.alloc o).drew.grownBy w1 (Value.slice Ar pre.length capr).ownBlock)
    (hr2 : w1.ownsRow (V.heap.size + 2) 27 2 (.slice (some ⟨g, 0, none⟩) (pre.length + 1) cap1) (pre.length + 1) (flat pre ++ [.int .i64 x.1, .int .i64 x.2])) (hat : (Value.slice Ar pre.length capr).ownBlock = some g ∨ U.heap.size ≤ g) :
    KeepsFrom D0 U (w1.setCell ⟨V.heap.size, 0, none⟩ (.slice (some ⟨g, 0, none⟩) (pre.length + 1) cap1)) ∧ Chg (fun b => upb W.heap.size b ∧ ¬ priv (V0.heap.size + 2) hi b) U (w1.setCell ⟨V.heap.size, 0, none⟩ (.slice (some ⟨g, 0, none⟩) (pre.length + 1) cap1)) ∧
      rangeI Z V V.heap.size hi (pre ++ [x]) (w1.setCell ⟨V.heap.size, 0, none⟩ (.slice (some ⟨g, 0, none⟩) (pre.length + 1) cap1)) := by
  subst ho
  have lU : Later U (U.alloc o).drew := ((Later.refl U).alloc o).drew
  have hb : ∀ b, (Value.slice Ar pre.length capr).ownBlock = some b → V.heap.size + 2 ≤ b := fun b h => (own_at hr1 b h).1
  have cg : Chg (fun b => (Value.slice Ar pre.length capr).ownBlock = some b) (U.alloc o).drew w1 := chg_grown hgrow
  have cs : Chg (only V.heap.size) w1 (w1.setCell ⟨V.heap.size, 0, none⟩ (.slice (some ⟨g, 0, none⟩) (pre.length + 1) cap1)) := Chg.set _ _ rfl
  have ct : Chg (fun b => (Value.slice Ar pre.length capr).ownBlock = some b ∨ b = V.heap.size) U (w1.setCell ⟨V.heap.size, 0, none⟩ (.slice (some ⟨g, 0, none⟩) (pre.length + 1) cap1)) := (lU.chg.trans (cg.mono fun b h => .inl h)).trans (cs.mono fun b h => .inr h)
  have k1 : KeepsFrom V0.heap.size (U.alloc o).drew w1 := ⟨hgrow.size, fun k ob hk hob hc => (hgrow.block k (Array.getElem?_eq_some_iff.1 hob).1 (fun e => by
    have hr1' : (U.alloc o).drew.ownsRow (V.heap.size + 2) 27 2 (.slice Ar pre.length capr) pre.length (flat pre) := hr1.alloc o
    obtain ⟨_, _, cur, f, h⟩ := own_at hr1' k e.symm
    rw [hob] at h; cases h; cases hc)).trans hob⟩
  have sd1 : w1.heap[V.heap.size]? = some (.cells #[.slice Ar pre.length capr, .int .i64 0, .int .i64 0, .bool false] 115 (0, 0)) := (cg.block V.heap.size (Nat.lt_of_lt_of_le (Array.getElem?_eq_some_iff.1 sdU).1 lU.size) (fun h => by have := hb _ h; omega)).trans ((lU.block V.heap.size (Array.getElem?_eq_some_iff.1 sdU).1).trans sdU)
  refine ⟨((kf_later lU).trans k1).trans ((KeepsOthers.setCell _ _ _).from _), ct.mono fun b h => ?_, boxed_turn cB ct (fun h => h.elim (fun h => by have := hb _ h; omega) (fun h => by omega)), ⟨.slice (some ⟨g, 0, none⟩) (pre.length + 1) cap1, ?_, ?_, fun b h => ?_⟩, hc1.trans (ct.mono fun b h => .inr (h.elim (fun h => by have := hb _ h; omega) (fun h => by omega))), Nat.le_trans hz1 ct.size, hz2⟩
  · rcases h with h | rfl
    · exact ⟨by show W.heap.size ≤ b; have := hb _ h; omega, fun hp => hv b h ⟨by have := hp.1; omega, hp.2⟩⟩
    · exact ⟨hVW, fun hp => by have := hp.1; omega⟩
  · simp [World.setCell, Array.getElem?_modify, sd1]
  · rw [flat_snoc, List.length_append, List.length_singleton]
    exact own_chg hr2 cs (fun b hb' h => by have h1 := own_ge hr2 b hb'; have : b = V.heap.size := h; omega)
  · have e : g = b := by injection h
    subst e
    rcases hat with h | h
    · exact hv _ h
    · exact fun hp => by have := hp.2; omega
set_option maxRecDepth 100000 in
set_option maxHeartbeats 20000000 in
theorem sides_any {ss : List Sq} {Z : Nat → Prop} {I : Nat → World → Prop} {W : World} {A : Option Addr} {cap dof : Nat} {dlb : Array Value} {Q : Nat → World → Prop}
    (hA : ∀ (i : Nat) (s : Sq), ss[i]? = some s → ∃ b o, A = some ⟨b, o, none⟩ ∧ W.cell? ⟨b, o + i, none⟩ = some s.v ∧ ¬ Z b) (hcap : ss.length ≤ cap) (hzs : ss.length ≤ 1000)
    (hok : ∀ (i : Nat) (s : Sq), ss[i]? = some s → SqOk (upb W.heap.size) Z (I i) (I (i + 1)) s) (hI : ∀ i U V, I i U → Chg (upb W.heap.size) U V → I i V) (h0 : I 0 W) (hZ : ∀ b, Z b → b < W.heap.size)
    (hx : ∀ (i : Nat) (s : Sq), ss[i]? = some s → s.xs.length ≤ 8796093022080) (edo : ∀ args w, (callFunc dof args).run Try.prog w = .ok (.enter dof args) w) (hQ : ∀ hi U V, Q hi U → Chg (priv W.heap.size hi) U V → Q hi V)
    (hdo : ∀ (V : World) (Ds : List Nat) (pv : Value), I ss.length V → Chg (fun b => Z b ∨ W.heap.size ≤ b) W V → Sides W.heap.size pv.ownBlock V Ds (ss.map (·.xs)) → V.ownsRow W.heap.size 113 1 pv Ds.length (Ds.map ptrV) →
      Calls Try.prog dof (#[pv] ++ dlb) V fun e U => (∃ v, e = .returned v) ∧ Q V.heap.size U ∧ ∀ b, W.heap.size ≤ b → b < V.heap.size → b ∉ Ds → U.heap[b]? = V.heap[b]?) :
    Calls Try.prog 79 #[.slice A ss.length cap, .func (.func dof) #[] dlb] W fun e U => (∃ v, e = .returned v) ∧ ∃ hi, W.heap.size ≤ hi ∧ Q hi U := by
  refine (callsIn_wide (n := 3)).1 ?_
  refine callsIn_of_wp_marks Try.func79 rfl trivial ?_ rfl
  simp only [Try.ntmps79, List.size_toArray, List.length_cons, List.length_nil, Nat.reduceAdd, Nat.reduceSub, Array.replicate_succ, Array.replicate_zero, List.push_toArray, List.append_toArray, List.nil_append, List.cons_append]
  refine wpIn_wide.2 ?_
  go_wp2_with fail
  refine wp_loop (fun a V => ∃ (k : Nat) (Ds Bs : List Nat) (pv u6 u7 u12 u13 u14 u15 u16 u17 u18 u19 u31 u32 u33 u34 u35 u36 u37 : Value), a = { tmps := #[.slice A ss.length cap, .func (.func dof) #[] dlb, undef, undef, pv, undef, u6, u7, undef, .slice A ss.length cap, .int .i64 ss.length, .int .i64 k, u12, u13, u14, u15, u16, u17, u18, u19, undef, undef, undef, undef, undef, undef, undef, undef, undef, undef, undef, u31, u32, u33, u34, u35, u36, u37, undef, undef, undef], defers := Bs.map markV } ∧ k ≤ ss.length ∧ Ds.length = k ∧ V.ownsRow W.heap.size 113 1 pv Ds.length (Ds.map ptrV) ∧ Sides W.heap.size pv.ownBlock V Ds ((ss.take k).map (·.xs)) ∧ I k V ∧ Chg (fun b => Z b ∨ W.heap.size ≤ b) W V ∧ Bs.Nodup ∧ (∀ B ∈ Bs, W.heap.size ≤ B ∧ V.heap[B]? = some (.deferred (some [])))) (fun a _ => ss.length - (intOf (a.tmps.getD 11 undef)).toNat) ?start ?round
  case start =>
    exact ⟨0, [], [], .slice none 0 0, _, _, _, _, _, _, _, _, _, _, _, _, _, _, _, _, _, rfl, Nat.zero_le _, rfl, World.ownsRow_nil .., ⟨rfl, List.nodup_nil, (fun D h => by cases h), fun j D q h => by simp at h⟩, h0, Chg.refl _ _, List.nodup_nil, (fun B h => by cases h)⟩
  case round =>
    rintro a V ⟨k, Ds, Bs, pv, u6, u7, u12, u13, u14, u15, u16, u17, u18, u19, u31, u32, u33, u34, u35, u36, u37, rfl, hk, hD, hown, hS, hIk, hc, hBn, hB⟩
    by_cases hlt : k < ss.length
    · obtain ⟨s, hs⟩ : ∃ s, ss[k]? = some s := ⟨_, List.getElem?_eq_getElem hlt⟩
      obtain ⟨b, o, rfl, hcell, hnz⟩ := hA k s hs
      have hblt := cell_lt hcell
      have hVc := hc.cell hcell (fun h => h.elim hnz (fun h => by omega))
      have hlen := hx k s hs
      obtain ⟨sv, xs⟩ := s
      dsimp only at hVc hlen hcell
      have hqs : (ss.take (k + 1)).map (·.xs) = (ss.take k).map (·.xs) ++ [xs] := by rw [take_snoc hs, List.map_append]; rfl
      have hokk := hok k _ hs
      have hIk1 := hI (k + 1)
      have hIk0 := hI k
      have hVW : W.heap.size ≤ V.heap.size := hc.size
      obtain ⟨n, hn⟩ : ∃ n, ss.length = n := ⟨_, rfl⟩
      rw [hn] at hlt hk hcap hzs ⊢
      clear hdo hI hok hA hQ hs
      replace hn := hid hn
      replace hqs := hid hqs
      replace hD := hid hD
      rcases hokk with ⟨rfl, rfl, hnext⟩ | ⟨gf, lb, rfl, eg, hseq⟩
      · have hF := neN29
        go_upto_region 9 with fail
        have cBox := Boxed.new (V.alloc (.cells #[.slice none 0 0, .int .i64 0, .int .i64 0, .bool false] 115)) 113 (ptrV V.heap.size)
        rw [World.size_alloc] at cBox
        have lV : Later V ((V.alloc (.cells #[.slice none 0 0, .int .i64 0, .int .i64 0, .bool false] 115)).alloc (.cells #[ptrV V.heap.size] 113)) := ((Later.refl V).alloc _).alloc _
        have sd : Side (fun b => V.heap.size < b) ((V.alloc (.cells #[.slice none 0 0, .int .i64 0, .int .i64 0, .bool false] 115)).alloc (.cells #[ptrV V.heap.size] 113)) V.heap.size [] (0, 0) false :=
          ⟨none, 0, (((Later.refl (V.alloc (.cells #[.slice none 0 0, .int .i64 0, .int .i64 0, .bool false] 115))).alloc (.cells #[ptrV V.heap.size] 113)).block V.heap.size (by rw [World.size_alloc]; omega)).trans (World.alloc_heap_new V _), ⟨Nat.le_refl _, by simp, fun i x h => by simp at h⟩, fun b o e h => absurd rfl h⟩
        have cV : Chg (fun b => Z b ∨ V.heap.size ≤ b) V ((V.alloc (.cells #[.slice none 0 0, .int .i64 0, .int .i64 0, .bool false] 115)).alloc (.cells #[ptrV V.heap.size] 113)) := lV.chg
        have iV := hnext _ (hIk0 _ _ hIk lV.chg)
        generalize (V.alloc (.cells #[.slice none 0 0, .int .i64 0, .int .i64 0, .bool false] 115)).alloc (.cells #[ptrV V.heap.size] 113) = V' at cBox lV sd cV iV ⊢
        have hB' : ∀ B ∈ Bs, W.heap.size ≤ B ∧ V'.heap[B]? = some (.deferred (some [])) := fun B h => ⟨(hB B h).1, (lV.block B (Array.getElem?_eq_some_iff.1 (hB B h).2).1).trans (hB B h).2⟩
        have hst := step_any sd (fun h => Nat.lt_irrefl _ h) (by omega)
        have hltV : V.heap.size < V'.heap.size := sd.lt
        have own1 := own_chg1 hown cV (fun b hb h => by have h1 := (own_at hown b hb).1; have h2 := (own_at hown b hb).2.1; exact h.elim (fun h => by have := hZ b h; omega) (fun h => by omega))
        have kB : ∀ B, W.heap.size ≤ B ∧ V'.heap[B]? = some (.deferred (some [])) → B ≠ V.heap.size := fun B h e => by obtain ⟨A', cap', h1, _⟩ := sd; rw [← e, h.2] at h1; cases h1
        have hVV : V.heap.size ≤ V'.heap.size := cV.size
        have cb := cBox.cell
        go_wp2_with fail
        go_at_call 81; refine hst.mono ?_; rintro e V2 ⟨⟨v, rfl⟩, c2, st⟩
        have cb2 := (boxed_turn cBox c2 (fun h => by have : V.heap.size + 1 = V.heap.size := h; omega)).cell
        have own2 := own_chg1 own1 c2 (fun b hb h => by have h2 := (own_at hown b hb).2.1; have : b = V.heap.size := h; omega)
        have own2a := own2.alloc (.cells #[ptrV V.heap.size] 113)
        have hV2 : V'.heap.size ≤ V2.heap.size := c2.size
        go_wp2_with (at_builtin; refine append_ptr (D := V.heap.size) rfl rfl rfl rfl own2a (Boxed.new V2 113 (ptrV V.heap.size)).cell (by have := hD.out; omega) (by simp; omega) ?_; intro g pc w1 hr1 hg1 hat)
        obtain ⟨S1, C1⟩ := sides_next hZ hc hown hS cV c2 st ((Later.refl V2).alloc _) hg1 hat hltV
        have i1 := hIk1 _ _ (hIk1 _ _ iV (c2.mono (fun b h => by have : b = V.heap.size := h; show W.heap.size ≤ b; omega))) (((Later.refl V2).alloc (.cells #[ptrV V.heap.size] 113)).chg.trans (Chg.mono (Y := upb W.heap.size) (chg_grown hg1) (fun b h => (own_at hown b h).1)))
        refine ⟨⟨k + 1, Ds ++ [V.heap.size], Bs, _, _, _, _, _, _, _, _, _, _, _, _, _, _, _, _, _, _, rfl, by omega, by rw [List.length_append, List.length_singleton, hD.out], by have h := hr1; rw [List.length_append, List.length_singleton] at h ⊢; exact h, by rw [hqs.out]; exact S1, i1, C1, hBn, fun B hBm => ?_⟩, by simp [intOf]; omega⟩
        have hb1 := hB' B hBm
        have hb2 := kB B hb1
        have hlB := (Array.getElem?_eq_some_iff.1 hb1.2).1
        have k2 := (c2.block B hlB hb2).trans hb1.2
        have k3 := (((Later.refl V2).alloc (.cells #[ptrV V.heap.size] 113)).block B (Nat.lt_of_lt_of_le hlB hV2)).trans k2
        refine ⟨hb1.1, (hg1.block B (Array.getElem?_eq_some_iff.1 k3).1 (fun e => ?_)).trans k3⟩
        obtain ⟨_, _, cur, f', h2⟩ := own_at own2a B e.symm
        rw [k3] at h2; cases h2
      · have hF := neF29 gf lb
        go_upto_block 2 with fail
        have cBox := Boxed.new (V.alloc (.cells #[.slice none 0 0, .int .i64 0, .int .i64 0, .bool false] 115)) 113 (ptrV V.heap.size)
        rw [World.size_alloc] at cBox
        have lV : Later V ((V.alloc (.cells #[.slice none 0 0, .int .i64 0, .int .i64 0, .bool false] 115)).alloc (.cells #[ptrV V.heap.size] 113)) := ((Later.refl V).alloc _).alloc _
        have sd0 : ((V.alloc (.cells #[.slice none 0 0, .int .i64 0, .int .i64 0, .bool false] 115)).alloc (.cells #[ptrV V.heap.size] 113)).heap[V.heap.size]? = some (.cells #[.slice none 0 0, .int .i64 0, .int .i64 0, .bool false] 115 (0, 0)) :=
          (((Later.refl (V.alloc (.cells #[.slice none 0 0, .int .i64 0, .int .i64 0, .bool false] 115))).alloc (.cells #[ptrV V.heap.size] 113)).block V.heap.size (by rw [World.size_alloc]; omega)).trans (World.alloc_heap_new V _)
        have hs0 : ((V.alloc (.cells #[.slice none 0 0, .int .i64 0, .int .i64 0, .bool false] 115)).alloc (.cells #[ptrV V.heap.size] 113)).heap.size = V.heap.size + 2 := by rw [World.size_alloc, World.size_alloc]
        generalize (V.alloc (.cells #[.slice none 0 0, .int .i64 0, .int .i64 0, .bool false] 115)).alloc (.cells #[ptrV V.heap.size] 113) = V0 at cBox lV sd0 hs0 ⊢
        have hq := hseq V0 (hIk0 _ _ hIk lV.chg)
        refine block_z (w0 := V0) (X := upb W.heap.size) (Z := Z) (xs := xs) (G := fun _ => I (k + 1)) 8 (by rfl) eg hq (Later.refl _) (fun b h => by show W.heap.size ≤ b; omega) (fun b h => by have := hZ b h; omega) (fun j A l o h hl => hIk1 _ _ h (chg_put _ _ _ (by show W.heap.size ≤ l; omega)))
          (rangeI Z V V.heap.size) (fun _ _ _ _ => False) (fun hi => rangeI_own rfl hs0 hi) (fun _ _ => ownFrom_pure _ _) (fun hi s A B h c => rangeI_chg h (by rw [hs0] at c; exact c) (fun b h => by have := hZ b h; omega)) (fun _ _ _ _ _ h _ => h) (fun hi U c h1 h2 => rangeI_start cBox sd0 hs0 (lV.chg) c h2 (fun b h => by have := hZ b h; omega)) (fun hi pre U h => h.2.2.2.1) ?assign ?body ?done (fun _ _ _ _ _ _ _ _ _ h _ => h.elim)
        case assign =>
          intro l' y U K hK
          simp only [inTmps, List.setIfInBounds_toArray, List.set_cons_zero, List.set_cons_succ] at hK ⊢
          gi_wp2
          exact hK
        case body =>
          rintro hi l' pre x Bx U hhi ⟨cB, ⟨v, sdU, hr1, hv⟩, hc1, hz1, hz2⟩ bX hBx hlt'
          simp only [inTmps, List.setIfInBounds_toArray, List.set_cons_zero, List.set_cons_succ]
          obtain ⟨cX0, cX1, _, _⟩ := bX.cells
          obtain ⟨Ar, capr, rfl⟩ : ∃ Ar capr, v = .slice Ar pre.length capr := by
            rcases hr1.2 with ⟨rfl, h0⟩ | ⟨g', cap', cur, rfl, _⟩
            · exact ⟨none, 0, by rw [h0]⟩
            · exact ⟨_, _, rfl⟩
          refine wpIn_block ?_
          refine region_round_held (fun w' => w'.cell? ⟨V.heap.size + 1, 0, none⟩ = some (ptrV V.heap.size)) (by kernel_rfl) (by kernel_rfl) (by rintro ⟨_, _, h⟩; exact h) cB.cell (fun hS => ?_)
          refine wpAnyH_take (i := 0) (oi := { dst := some 21, op := Go.Op.load 113 (Go.Operand.tmp 7), type := 113, pos := "shelf.go:263", after := #[], guard := none }) (v := ptrV V.heap.size) rfl (by kernel_rfl) (by kernel_rfl) (by kernel_rfl) (fun _ _ _ h => h) (Or.inl ⟨by rfl, fun w hSw => by (dsimp only at hSw; have s1 := hSw; go_simp)⟩) (by assumption) ?_
          try simp only [Act.put, List.setIfInBounds_toArray, List.set_cons_zero, List.set_cons_succ]
          refine wpAnyH_take (i := 1) (oi := { dst := some 22, op := Go.Op.load 113 (Go.Operand.tmp 7), type := 113, pos := "shelf.go:263", after := #[], guard := none }) (v := ptrV V.heap.size) rfl (by kernel_rfl) (by kernel_rfl) (by kernel_rfl) (fun _ _ _ h => h) (Or.inl ⟨by rfl, fun w hSw => by (dsimp only at hSw; have s1 := hSw; go_simp)⟩) (by assumption) ?_
          try simp only [Act.put, List.setIfInBounds_toArray, List.set_cons_zero, List.set_cons_succ]
          refine wpAnyH_take (i := 2) (oi := { dst := some 23, op := Go.Op.nilCheck (Go.Operand.tmp 22), type := 0, pos := "shelf.go:263", after := #[{ on := 1, ground := Go.Ground.data }], guard := none }) (v := ptrV V.heap.size) rfl (by kernel_rfl) (by kernel_rfl) (by kernel_rfl) (fun _ _ _ h => h) (Or.inl ⟨by rfl, fun w hSw => by (dsimp only at hSw; have s1 := hSw; go_simp)⟩) (by assumption) ?_
          try simp only [Act.put, List.setIfInBounds_toArray, List.set_cons_zero, List.set_cons_succ]
          refine wpAnyH_take (i := 3) (oi := { dst := some 24, op := Go.Op.fieldAddr 115 (Go.Operand.tmp 23) 0, type := 0, pos := "shelf.go:263", after := #[{ on := 2, ground := Go.Ground.data }], guard := none }) (v := ptrV V.heap.size) rfl (by kernel_rfl) (by kernel_rfl) (by kernel_rfl) (fun _ _ _ h => h) (Or.inl ⟨by rfl, fun w hSw => by (dsimp only at hSw; have s1 := hSw; go_simp)⟩) (by assumption) ?_
          try simp only [Act.put, List.setIfInBounds_toArray, List.set_cons_zero, List.set_cons_succ]
          have q4 : U.drew.cell? ⟨V.heap.size, 0, none⟩ = some (.slice Ar pre.length capr) := by
            have h : U.drew.heap[V.heap.size]? = _ := sdU
            simp [World.cell?, h]
          have q5 : (U.alloc (.cells #[.int .i64 x.1, .int .i64 x.2] 27)).drew.cell? ⟨V.heap.size, 0, none⟩ = some (.slice Ar pre.length capr) := (Later.alloc (Later.refl U) _).cell q4
          have sdA : (U.alloc (.cells #[.int .i64 x.1, .int .i64 x.2] 27)).drew.heap[V.heap.size]? = _ := ((Later.alloc (Later.refl U) (.cells #[.int .i64 x.1, .int .i64 x.2] 27)).block V.heap.size (Array.getElem?_eq_some_iff.1 sdU).1).trans sdU
          have q6 : (U.alloc (.cells #[.int .i64 x.1, .int .i64 x.2] 27)).drew.frozen? ⟨V.heap.size, 0, none⟩ = false := by simp [World.frozen?, sdA]
          have hrd : U.drew.ownsRow (V.heap.size + 2) 27 2 (.slice Ar pre.length capr) pre.length (flat pre) := hr1
          have hra := hrd.alloc (.cells #[.int .i64 x.1, .int .i64 x.2] 27)
          have hnews : ∀ j u, [Value.int .i64 x.1, .int .i64 x.2][j]? = some u → (U.alloc (.cells #[.int .i64 x.1, .int .i64 x.2] 27)).drew.cell? ((⟨U.heap.size, 0, none⟩ : Addr).add j) = some u := two_cells U.drew _ _ _
          have hn0 : ¬ (Value.slice Ar pre.length capr).ownBlock = some V.heap.size := fun e => by have h := (own_at hr1 _ e).1; omega
          have hn1 : ¬ (Value.slice Ar pre.length capr).ownBlock = some (V.heap.size + 1) := fun e => by have h := (own_at hr1 _ e).1; omega
          obtain ⟨i0, hi0, hz00, hz01, hz02⟩ := info_parts info27
          have hUV : V.heap.size + 2 ≤ U.heap.size := by omega
          have hpl : pre.length ≤ 8796093022080 := by omega
          have c0 : U.drew.cell? ⟨Bx, 0, none⟩ = some (.int .i64 x.1) := cX0
          have c1 : U.drew.cell? ⟨Bx, 1, none⟩ = some (.int .i64 x.2) := cX1
          refine wpAnyH_ready (rs := [4, 5]) (by kernel_rfl) (by simp) ?_
          refine AllReadyH.cons (o := { dst := some 25, op := Go.Op.load 22 (Go.Operand.tmp 24), type := 22, pos := "shelf.go:263", after := #[{ on := 3, ground := Go.Ground.data }], guard := none }) rfl (fun K hK => ?_) (AllReadyH.cons (o := { dst := some 26, op := Go.Op.load 27 (Go.Operand.tmp 8), type := 27, pos := "shelf.go:263", after := #[], guard := none }) rfl (fun K hK => ?_) AllReadyH.nil)
          · go_simp
            refine hK.out _ _ ?_ (fun hS => ?_)
            · exact hS
            clear hK K
            try simp only [Act.put, List.setIfInBounds_toArray, List.set_cons_zero, List.set_cons_succ]
            refine wpAnyH_ready (rs := [5]) (by kernel_rfl) (by simp) ?_
            refine AllReadyH.cons (o := { dst := some 26, op := Go.Op.load 27 (Go.Operand.tmp 8), type := 27, pos := "shelf.go:263", after := #[], guard := none }) rfl (fun K hK => ?_) AllReadyH.nil
            go_simp
            refine hK.out _ _ ?_ (fun hS => ?_)
            · exact hS
            clear hK K
            try simp only [Act.put, List.setIfInBounds_toArray, List.set_cons_zero, List.set_cons_succ]
            refine wpAnyH_ready (rs := [6]) (by kernel_rfl) (by simp) ?_
            refine AllReadyH.cons (o := { dst := some 27, op := Go.Op.buildSlice 22 1 #[(0, Go.Operand.tmp 26)], type := 22, pos := "shelf.go:263", after := #[{ on := 5, ground := Go.Ground.data }], guard := none }) rfl (fun K hK => ?_) AllReadyH.nil
            go_simp
            refine hK.out _ _ ?_ (fun hS => ?_)
            · exact (Later.alloc (Later.refl _) _).cell hS
            clear hK K
            try simp only [Act.put, List.setIfInBounds_toArray, List.set_cons_zero, List.set_cons_succ]
            refine wpAnyH_ready (rs := [7]) (by kernel_rfl) (by simp) ?_
            refine AllReadyH.cons (o := { dst := some 28, op := Go.Op.call { callee := Go.Callee.builtin Go.Builtin.append, args := #[Go.Operand.tmp 25, Go.Operand.tmp 27], argTypes := #[22, 22] }, type := 22, pos := "shelf.go:263", after := #[{ on := 4, ground := Go.Ground.data }, { on := 6, ground := Go.Ground.data }], guard := none }) rfl (fun K hK => ?_) AllReadyH.nil
            refine step_append_lies _ rfl (.tmp 25) (.tmp 27) 22 rfl (V.heap.size + 2) 27 i0 (.agg #[.int .i64 0, .int .i64 0]) 2 16 Try.underlying22 hi0 hz00 hz01 hz02 rfl (by decide) (.slice Ar pre.length capr) pre.length (flat pre) rfl hra ⟨U.heap.size, 0, none⟩ 1 1 [.int .i64 x.1, .int .i64 x.2] rfl rfl hnews (by simp [Value.oneCell']) (by decide) (by unfold maxLen; omega) (by omega) (by simp [World.drew]; omega) _ rfl ?_
            intro g cap1 w1 hr2 hgrow hat hglt
            have hcg := chg_grown hgrow
            refine hK.out _ _ ?_ (fun hS => ?_)
            · exact hcg.cell hS hn1
            clear hK K
            try simp only [Act.put, List.setIfInBounds_toArray, List.set_cons_zero, List.set_cons_succ]
            refine wpAnyH_take (i := 8) (oi := { dst := some 29, op := Go.Op.nilCheck (Go.Operand.tmp 21), type := 0, pos := "shelf.go:263", after := #[{ on := 0, ground := Go.Ground.data }, { on := 0, ground := Go.Ground.phase }, { on := 1, ground := Go.Ground.phase }, { on := 2, ground := Go.Ground.phase }, { on := 3, ground := Go.Ground.phase }, { on := 4, ground := Go.Ground.phase }, { on := 5, ground := Go.Ground.phase }, { on := 6, ground := Go.Ground.phase }, { on := 7, ground := Go.Ground.phase }], guard := none }) (v := ptrV V.heap.size) rfl (by kernel_rfl) (by kernel_rfl) (by kernel_rfl) (fun _ _ _ h => h) (Or.inl ⟨by rfl, fun w hSw => by (dsimp only at hSw; have s1 := hSw; go_simp)⟩) (by assumption) ?_
            try simp only [Act.put, List.setIfInBounds_toArray, List.set_cons_zero, List.set_cons_succ]
            refine wpAnyH_take (i := 9) (oi := { dst := some 30, op := Go.Op.fieldAddr 115 (Go.Operand.tmp 29) 0, type := 0, pos := "shelf.go:263", after := #[{ on := 8, ground := Go.Ground.data }, { on := 0, ground := Go.Ground.phase }, { on := 1, ground := Go.Ground.phase }, { on := 2, ground := Go.Ground.phase }, { on := 3, ground := Go.Ground.phase }, { on := 4, ground := Go.Ground.phase }, { on := 5, ground := Go.Ground.phase }, { on := 6, ground := Go.Ground.phase }, { on := 7, ground := Go.Ground.phase }], guard := none }) (v := ptrV V.heap.size) rfl (by kernel_rfl) (by kernel_rfl) (by kernel_rfl) (fun _ _ _ h => h) (Or.inl ⟨by rfl, fun w hSw => by (dsimp only at hSw; have s1 := hSw; go_simp)⟩) (by assumption) ?_
            try simp only [Act.put, List.setIfInBounds_toArray, List.set_cons_zero, List.set_cons_succ]
            have qs := hcg.cell q5 hn0
            have hsd1 := (hcg.block V.heap.size (Array.getElem?_eq_some_iff.1 sdA).1 hn0).trans sdA
            have fs : w1.frozen? ⟨V.heap.size, 0, none⟩ = false := by simp [World.frozen?, hsd1]
            refine wpAnyH_ready (rs := [10]) (by kernel_rfl) (by simp) ?_
            refine AllReadyH.cons (o := { dst := none, op := Go.Op.store 22 (Go.Operand.tmp 30) (Go.Operand.tmp 28), type := 0, pos := "shelf.go:263", after := #[{ on := 9, ground := Go.Ground.data }, { on := 7, ground := Go.Ground.data }, { on := 7, ground := Go.Ground.chain }, { on := 0, ground := Go.Ground.phase }, { on := 1, ground := Go.Ground.phase }, { on := 2, ground := Go.Ground.phase }, { on := 3, ground := Go.Ground.phase }, { on := 4, ground := Go.Ground.phase }, { on := 5, ground := Go.Ground.phase }, { on := 6, ground := Go.Ground.phase }, { on := 7, ground := Go.Ground.phase }], guard := none }) rfl (fun K hK => ?_) AllReadyH.nil
            go_simp
            refine hK.out _ _ ?_ (fun hS => ?_)
            · exact Chg.cell (Chg.set (X := only V.heap.size) _ _ rfl) hS (fun h => by have : V.heap.size + 1 = V.heap.size := h; omega)
            clear hK K
            refine wpAnyH_done (by kernel_rfl) ?_ _
            exact range_end hVW hs0 hhi rfl cB sdU hr1 hv hc1 hz1 hz2 hgrow hr2 (hat.imp_right fun e => by rw [e]; exact (((Later.refl U).alloc _).drew).size)
          · go_simp
            refine hK.out _ _ ?_ (fun hS => ?_)
            · exact hS
            clear hK K
            try simp only [Act.put, List.setIfInBounds_toArray, List.set_cons_zero, List.set_cons_succ]
            refine wpAnyH_ready (rs := [4, 6]) (by kernel_rfl) (by simp) ?_
            refine AllReadyH.cons (o := { dst := some 25, op := Go.Op.load 22 (Go.Operand.tmp 24), type := 22, pos := "shelf.go:263", after := #[{ on := 3, ground := Go.Ground.data }], guard := none }) rfl (fun K hK => ?_) (AllReadyH.cons (o := { dst := some 27, op := Go.Op.buildSlice 22 1 #[(0, Go.Operand.tmp 26)], type := 22, pos := "shelf.go:263", after := #[{ on := 5, ground := Go.Ground.data }], guard := none }) rfl (fun K hK => ?_) AllReadyH.nil)
            · go_simp
              refine hK.out _ _ ?_ (fun hS => ?_)
              · exact hS
              clear hK K
              try simp only [Act.put, List.setIfInBounds_toArray, List.set_cons_zero, List.set_cons_succ]
              refine wpAnyH_ready (rs := [6]) (by kernel_rfl) (by simp) ?_
              refine AllReadyH.cons (o := { dst := some 27, op := Go.Op.buildSlice 22 1 #[(0, Go.Operand.tmp 26)], type := 22, pos := "shelf.go:263", after := #[{ on := 5, ground := Go.Ground.data }], guard := none }) rfl (fun K hK => ?_) AllReadyH.nil
              go_simp
              refine hK.out _ _ ?_ (fun hS => ?_)
              · exact (Later.alloc (Later.refl _) _).cell hS
              clear hK K
              try simp only [Act.put, List.setIfInBounds_toArray, List.set_cons_zero, List.set_cons_succ]
              refine wpAnyH_ready (rs := [7]) (by kernel_rfl) (by simp) ?_
              refine AllReadyH.cons (o := { dst := some 28, op := Go.Op.call { callee := Go.Callee.builtin Go.Builtin.append, args := #[Go.Operand.tmp 25, Go.Operand.tmp 27], argTypes := #[22, 22] }, type := 22, pos := "shelf.go:263", after := #[{ on := 4, ground := Go.Ground.data }, { on := 6, ground := Go.Ground.data }], guard := none }) rfl (fun K hK => ?_) AllReadyH.nil
              refine step_append_lies _ rfl (.tmp 25) (.tmp 27) 22 rfl (V.heap.size + 2) 27 i0 (.agg #[.int .i64 0, .int .i64 0]) 2 16 Try.underlying22 hi0 hz00 hz01 hz02 rfl (by decide) (.slice Ar pre.length capr) pre.length (flat pre) rfl hra ⟨U.heap.size, 0, none⟩ 1 1 [.int .i64 x.1, .int .i64 x.2] rfl rfl hnews (by simp [Value.oneCell']) (by decide) (by unfold maxLen; omega) (by omega) (by simp [World.drew]; omega) _ rfl ?_
              intro g cap1 w1 hr2 hgrow hat hglt
              have hcg := chg_grown hgrow
              refine hK.out _ _ ?_ (fun hS => ?_)
              · exact hcg.cell hS hn1
              clear hK K
              try simp only [Act.put, List.setIfInBounds_toArray, List.set_cons_zero, List.set_cons_succ]
              refine wpAnyH_take (i := 8) (oi := { dst := some 29, op := Go.Op.nilCheck (Go.Operand.tmp 21), type := 0, pos := "shelf.go:263", after := #[{ on := 0, ground := Go.Ground.data }, { on := 0, ground := Go.Ground.phase }, { on := 1, ground := Go.Ground.phase }, { on := 2, ground := Go.Ground.phase }, { on := 3, ground := Go.Ground.phase }, { on := 4, ground := Go.Ground.phase }, { on := 5, ground := Go.Ground.phase }, { on := 6, ground := Go.Ground.phase }, { on := 7, ground := Go.Ground.phase }], guard := none }) (v := ptrV V.heap.size) rfl (by kernel_rfl) (by kernel_rfl) (by kernel_rfl) (fun _ _ _ h => h) (Or.inl ⟨by rfl, fun w hSw => by (dsimp only at hSw; have s1 := hSw; go_simp)⟩) (by assumption) ?_
              try simp only [Act.put, List.setIfInBounds_toArray, List.set_cons_zero, List.set_cons_succ]
              refine wpAnyH_take (i := 9) (oi := { dst := some 30, op := Go.Op.fieldAddr 115 (Go.Operand.tmp 29) 0, type := 0, pos := "shelf.go:263", after := #[{ on := 8, ground := Go.Ground.data }, { on := 0, ground := Go.Ground.phase }, { on := 1, ground := Go.Ground.phase }, { on := 2, ground := Go.Ground.phase }, { on := 3, ground := Go.Ground.phase }, { on := 4, ground := Go.Ground.phase }, { on := 5, ground := Go.Ground.phase }, { on := 6, ground := Go.Ground.phase }, { on := 7, ground := Go.Ground.phase }], guard := none }) (v := ptrV V.heap.size) rfl (by kernel_rfl) (by kernel_rfl) (by kernel_rfl) (fun _ _ _ h => h) (Or.inl ⟨by rfl, fun w hSw => by (dsimp only at hSw; have s1 := hSw; go_simp)⟩) (by assumption) ?_
              try simp only [Act.put, List.setIfInBounds_toArray, List.set_cons_zero, List.set_cons_succ]
              have qs := hcg.cell q5 hn0
              have hsd1 := (hcg.block V.heap.size (Array.getElem?_eq_some_iff.1 sdA).1 hn0).trans sdA
              have fs : w1.frozen? ⟨V.heap.size, 0, none⟩ = false := by simp [World.frozen?, hsd1]
              refine wpAnyH_ready (rs := [10]) (by kernel_rfl) (by simp) ?_
              refine AllReadyH.cons (o := { dst := none, op := Go.Op.store 22 (Go.Operand.tmp 30) (Go.Operand.tmp 28), type := 0, pos := "shelf.go:263", after := #[{ on := 9, ground := Go.Ground.data }, { on := 7, ground := Go.Ground.data }, { on := 7, ground := Go.Ground.chain }, { on := 0, ground := Go.Ground.phase }, { on := 1, ground := Go.Ground.phase }, { on := 2, ground := Go.Ground.phase }, { on := 3, ground := Go.Ground.phase }, { on := 4, ground := Go.Ground.phase }, { on := 5, ground := Go.Ground.phase }, { on := 6, ground := Go.Ground.phase }, { on := 7, ground := Go.Ground.phase }], guard := none }) rfl (fun K hK => ?_) AllReadyH.nil
              go_simp
              refine hK.out _ _ ?_ (fun hS => ?_)
              · exact Chg.cell (Chg.set (X := only V.heap.size) _ _ rfl) hS (fun h => by have : V.heap.size + 1 = V.heap.size := h; omega)
              clear hK K
              refine wpAnyH_done (by kernel_rfl) ?_ _
              exact range_end hVW hs0 hhi rfl cB sdU hr1 hv hc1 hz1 hz2 hgrow hr2 (hat.imp_right fun e => by rw [e]; exact (((Later.refl U).alloc _).drew).size)
            · go_simp
              refine hK.out _ _ ?_ (fun hS => ?_)
              · exact (Later.alloc (Later.refl _) _).cell hS
              clear hK K
              try simp only [Act.put, List.setIfInBounds_toArray, List.set_cons_zero, List.set_cons_succ]
              refine wpAnyH_ready (rs := [4]) (by kernel_rfl) (by simp) ?_
              refine AllReadyH.cons (o := { dst := some 25, op := Go.Op.load 22 (Go.Operand.tmp 24), type := 22, pos := "shelf.go:263", after := #[{ on := 3, ground := Go.Ground.data }], guard := none }) rfl (fun K hK => ?_) AllReadyH.nil
              go_simp
              refine hK.out _ _ ?_ (fun hS => ?_)
              · exact hS
              clear hK K
              try simp only [Act.put, List.setIfInBounds_toArray, List.set_cons_zero, List.set_cons_succ]
              refine wpAnyH_ready (rs := [7]) (by kernel_rfl) (by simp) ?_
              refine AllReadyH.cons (o := { dst := some 28, op := Go.Op.call { callee := Go.Callee.builtin Go.Builtin.append, args := #[Go.Operand.tmp 25, Go.Operand.tmp 27], argTypes := #[22, 22] }, type := 22, pos := "shelf.go:263", after := #[{ on := 4, ground := Go.Ground.data }, { on := 6, ground := Go.Ground.data }], guard := none }) rfl (fun K hK => ?_) AllReadyH.nil
              refine step_append_lies _ rfl (.tmp 25) (.tmp 27) 22 rfl (V.heap.size + 2) 27 i0 (.agg #[.int .i64 0, .int .i64 0]) 2 16 Try.underlying22 hi0 hz00 hz01 hz02 rfl (by decide) (.slice Ar pre.length capr) pre.length (flat pre) rfl hra ⟨U.heap.size, 0, none⟩ 1 1 [.int .i64 x.1, .int .i64 x.2] rfl rfl hnews (by simp [Value.oneCell']) (by decide) (by unfold maxLen; omega) (by omega) (by simp [World.drew]; omega) _ rfl ?_
              intro g cap1 w1 hr2 hgrow hat hglt
              have hcg := chg_grown hgrow
              refine hK.out _ _ ?_ (fun hS => ?_)
              · exact hcg.cell hS hn1
              clear hK K
              try simp only [Act.put, List.setIfInBounds_toArray, List.set_cons_zero, List.set_cons_succ]
              refine wpAnyH_take (i := 8) (oi := { dst := some 29, op := Go.Op.nilCheck (Go.Operand.tmp 21), type := 0, pos := "shelf.go:263", after := #[{ on := 0, ground := Go.Ground.data }, { on := 0, ground := Go.Ground.phase }, { on := 1, ground := Go.Ground.phase }, { on := 2, ground := Go.Ground.phase }, { on := 3, ground := Go.Ground.phase }, { on := 4, ground := Go.Ground.phase }, { on := 5, ground := Go.Ground.phase }, { on := 6, ground := Go.Ground.phase }, { on := 7, ground := Go.Ground.phase }], guard := none }) (v := ptrV V.heap.size) rfl (by kernel_rfl) (by kernel_rfl) (by kernel_rfl) (fun _ _ _ h => h) (Or.inl ⟨by rfl, fun w hSw => by (dsimp only at hSw; have s1 := hSw; go_simp)⟩) (by assumption) ?_
              try simp only [Act.put, List.setIfInBounds_toArray, List.set_cons_zero, List.set_cons_succ]
              refine wpAnyH_take (i := 9) (oi := { dst := some 30, op := Go.Op.fieldAddr 115 (Go.Operand.tmp 29) 0, type := 0, pos := "shelf.go:263", after := #[{ on := 8, ground := Go.Ground.data }, { on := 0, ground := Go.Ground.phase }, { on := 1, ground := Go.Ground.phase }, { on := 2, ground := Go.Ground.phase }, { on := 3, ground := Go.Ground.phase }, { on := 4, ground := Go.Ground.phase }, { on := 5, ground := Go.Ground.phase }, { on := 6, ground := Go.Ground.phase }, { on := 7, ground := Go.Ground.phase }], guard := none }) (v := ptrV V.heap.size) rfl (by kernel_rfl) (by kernel_rfl) (by kernel_rfl) (fun _ _ _ h => h) (Or.inl ⟨by rfl, fun w hSw => by (dsimp only at hSw; have s1 := hSw; go_simp)⟩) (by assumption) ?_
              try simp only [Act.put, List.setIfInBounds_toArray, List.set_cons_zero, List.set_cons_succ]
              have qs := hcg.cell q5 hn0
              have hsd1 := (hcg.block V.heap.size (Array.getElem?_eq_some_iff.1 sdA).1 hn0).trans sdA
              have fs : w1.frozen? ⟨V.heap.size, 0, none⟩ = false := by simp [World.frozen?, hsd1]
              refine wpAnyH_ready (rs := [10]) (by kernel_rfl) (by simp) ?_
              refine AllReadyH.cons (o := { dst := none, op := Go.Op.store 22 (Go.Operand.tmp 30) (Go.Operand.tmp 28), type := 0, pos := "shelf.go:263", after := #[{ on := 9, ground := Go.Ground.data }, { on := 7, ground := Go.Ground.data }, { on := 7, ground := Go.Ground.chain }, { on := 0, ground := Go.Ground.phase }, { on := 1, ground := Go.Ground.phase }, { on := 2, ground := Go.Ground.phase }, { on := 3, ground := Go.Ground.phase }, { on := 4, ground := Go.Ground.phase }, { on := 5, ground := Go.Ground.phase }, { on := 6, ground := Go.Ground.phase }, { on := 7, ground := Go.Ground.phase }], guard := none }) rfl (fun K hK => ?_) AllReadyH.nil
              go_simp
              refine hK.out _ _ ?_ (fun hS => ?_)
              · exact Chg.cell (Chg.set (X := only V.heap.size) _ _ rfl) hS (fun h => by have : V.heap.size + 1 = V.heap.size := h; omega)
              clear hK K
              refine wpAnyH_done (by kernel_rfl) ?_ _
              exact range_end hVW hs0 hhi rfl cB sdU hr1 hv hc1 hz1 hz2 hgrow hr2 (hat.imp_right fun e => by rw [e]; exact (((Later.refl U).alloc _).drew).size)
        case done =>
          rintro hi D U hhi hDn hK ⟨cB, ⟨v, sdU, hr1, hv⟩, hc1, hz1, hz2⟩ hi1
          obtain ⟨Ar, capr, rfl, hsl, hbl⟩ := row_slice2 (l := xs) hr1 (by omega) rfl
          have sd : Side (fun b => V.heap.size < b) U V.heap.size xs (0, 0) false := ⟨Ar, capr, sdU, hsl, fun b' o' e h => by have := (hbl b' o' e).1; omega⟩
          have iV : I (k + 1) U := hi1
          have hDS : V.heap.size ≤ D := by omega
          have hBm' : ∀ B ∈ D :: Bs, W.heap.size ≤ B ∧ U.heap[B]? = some (.deferred (some [])) := fun B h => by
            rcases List.mem_cons.1 h with rfl | h
            · exact ⟨by omega, hK⟩
            · have hlB := (Array.getElem?_eq_some_iff.1 (hB B h).2).1
              exact ⟨(hB B h).1, (hc1.block B hlB (fun h' => h'.elim (fun h' => by have := hZ B h'; have := (hB B h).1; omega) (fun h' => by omega))).trans (hB B h).2⟩
          have hDB : (D :: Bs).Nodup := List.nodup_cons.2 ⟨fun h => by have := (Array.getElem?_eq_some_iff.1 (hB D h).2).1; omega, hBn⟩
          have cV := hc1
          have cBox := cB
          clear hq hseq hcell
          generalize U = V' at cBox sd cV iV hBm' ⊢
          have hst := step_any sd (fun h => Nat.lt_irrefl _ h) (by omega)
          have hltV : V.heap.size < V'.heap.size := sd.lt
          have own1 := own_chg1 hown cV (fun b hb h => by have h1 := (own_at hown b hb).1; have h2 := (own_at hown b hb).2.1; exact h.elim (fun h => by have := hZ b h; omega) (fun h => by omega))
          have kB : ∀ B, W.heap.size ≤ B ∧ V'.heap[B]? = some (.deferred (some [])) → B ≠ V.heap.size := fun B h e => by obtain ⟨A', cap', h1, _⟩ := sd; rw [← e, h.2] at h1; cases h1
          have hVV : V.heap.size ≤ V'.heap.size := cV.size
          have cb := cBox.cell
          go_wp2_with fail
          go_at_call 81; refine hst.mono ?_; rintro e V2 ⟨⟨v, rfl⟩, c2, st⟩
          have cb2 := (boxed_turn cBox c2 (fun h => by have : V.heap.size + 1 = V.heap.size := h; omega)).cell
          have own2 := own_chg1 own1 c2 (fun b hb h => by have h2 := (own_at hown b hb).2.1; have : b = V.heap.size := h; omega)
          have own2a := own2.alloc (.cells #[ptrV V.heap.size] 113)
          have hV2 : V'.heap.size ≤ V2.heap.size := c2.size
          go_wp2_with (at_builtin; refine append_ptr (D := V.heap.size) rfl rfl rfl rfl own2a (Boxed.new V2 113 (ptrV V.heap.size)).cell (by have := hD.out; omega) (by simp; omega) ?_; intro g pc w1 hr1 hg1 hat)
          obtain ⟨S1, C1⟩ := sides_next hZ hc hown hS cV c2 st ((Later.refl V2).alloc _) hg1 hat hltV
          have i1 := hIk1 _ _ (hIk1 _ _ iV (c2.mono (fun b h => by have : b = V.heap.size := h; show W.heap.size ≤ b; omega))) (((Later.refl V2).alloc (.cells #[ptrV V.heap.size] 113)).chg.trans (Chg.mono (Y := upb W.heap.size) (chg_grown hg1) (fun b h => (own_at hown b h).1)))
          refine ⟨⟨k + 1, Ds ++ [V.heap.size], (D :: Bs), _, _, _, _, _, _, _, _, _, _, _, _, _, _, _, _, _, _, rfl, by omega, by rw [List.length_append, List.length_singleton, hD.out], by have h := hr1; rw [List.length_append, List.length_singleton] at h ⊢; exact h, by rw [hqs.out]; exact S1, i1, C1, hDB, fun B hB' => ?_⟩, by simp [intOf]; omega⟩
          have hb1 := hBm' B hB'
          have hb2 := kB B hb1
          have hlB := (Array.getElem?_eq_some_iff.1 hb1.2).1
          have k2 := (c2.block B hlB hb2).trans hb1.2
          have k3 := (((Later.refl V2).alloc (.cells #[ptrV V.heap.size] 113)).block B (Nat.lt_of_lt_of_le hlB hV2)).trans k2
          refine ⟨hb1.1, (hg1.block B (Array.getElem?_eq_some_iff.1 k3).1 (fun e => ?_)).trans k3⟩
          obtain ⟨_, _, cur, f', h2⟩ := own_at own2a B e.symm
          rw [k3] at h2; cases h2
    · obtain rfl : k = ss.length := by omega
      rw [List.take_length] at hS
      have hd := hdo V Ds pv hIk hc hS hown
      clear hdo hI hok hA
      go_wp2_with fail
      refine hd.mono ?_; rintro e U ⟨⟨v, rfl⟩, hq, hkeep⟩
      go_wp2_with fail
      refine leaves_marks (lo := W.heap.size) (hi := V.heap.size) (Q := Q V.heap.size) (hQ _) (fun V' hq' => ⟨.tuple #[], by simp [results, Try.results79, go_sem], ⟨_, rfl⟩, _, hc.size, hq'⟩) Bs U hBn (fun B hB' => ?_) hq
      obtain ⟨b1, b2⟩ := hB B hB'
      have hlt := (Array.getElem?_eq_some_iff.1 b2).1
      exact ⟨⟨b1, hlt⟩, (hkeep B b1 hlt (fun hm => by obtain ⟨cs, f, hz⟩ := hS.cells B hm; rw [b2] at hz; cases hz)).trans b2⟩
end Go.Proofs.Yteledidnhjioaaa.Sh
