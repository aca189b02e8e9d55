/- Proved: latchkeylaw10.TuplesOrder returns true for every three tuples, and its arguments read afterwards as they read before; the card ties the tables of the library that the seat lists. -/
import Derived.Test.YtlhhpdomiioeiaaGreatDoorRows
import Derived.Test.YtlhhpdomiioeiaaGreatDoorCards
import Derived.Test.YtlhhpdomiioeiaaGreatDoorTie
import Derived.Test.YtlhhpdomiioeiaaGreatDoorOp
import Derived.WalkKit
import Derived.ProofKit
import Derived.OpenShut
import Derived.ShutString
import Derived.ChangeOld
import Derived.Below
import Derived.SizedLaws
import Derived.LaidMore
import Derived.Lay
import Derived.SevenTiedAt
import Derived.Stop.Joined
import Derived.PinnedBridge
import Derived.HandedShaped
import Derived.Shelf.Vars
namespace Go.Proofs.YtlhhpdomiioeiaaGreatDoor.tuplesOrder
open Go.ChangeShapes Go.WideShapes Go.ChangeAt Go.RowKit
open Go.ChangeMaps (open_string shut_string)
set_option linter.unusedVariables false
set_option linter.unusedSimpArgs false
theorem handed_and_shaped {H : Type} {enc : TypeId × Value → H} {a : Assume} {C : Checked} {os : Os} {f : FuncId} {fn : Func} {s : ChangeSpec} {conds : List PathCond} {apart fresh handsOn again : Bool} {X : World → Array Value → Prop}
    (own : ownKnob C.prog.godebug = none) (started : os.Started) (noInit : C.prog.inits.idxOf? f = none) (hfn : C.prog.funcs[f]? = some fn)
    (witness : ∃ (w : World) (tape : Tape) (i : Input), w.os = os ∧ (w.forCall tape i).Shaped C.prog ∧ i.vars = [] ∧ Input.okWide C.prog (w.forCall tape i) .any w.heap.size f i ∧
      ((s.pre enc C.prog fn conds apart (w.forCall tape i).memory i.args ∧ X (w.forCall tape i).memory i.args) ∧ sizedMet enc C.prog fn (OpenSpec.ofChange s) apart (w.forCall tape i).memory i.args) ∧ a.holds C.prog (lone (Frame.enter C.prog f i.args .normal) [] (w.forCall tape i)))
    (contract : ∀ (W : World) (base : Nat) (args : Array Value) (ds gs : List (DataW H)) (before : List MemPlace),
      (∀ (j : Nat) t v, fn.params[j]? = some t → args[j]? = some v → Value.okWide C.prog W .any base t v) →
      DataW.Whole enc C.prog fn.params.toList s.vars apart W args.toList ds gs before →
      conds.all (PathCond.test C.prog ⟨fn.params.toList, ds, s.plain.varTypes C.prog, gs⟩) = true →
      (DataW.weightsEach C.prog (fn.params.toList ++ s.plain.varTypes C.prog) (ds ++ gs)).all (· ≤ reachBytes) = true → W.ShapedOpen C.prog →
      a.holds C.prog (lone (Frame.enter C.prog f args .normal) [] W) →
      Calls C.prog f args W fun e W' => ∃ v, e = .returned v ∧ s.post enc C.prog fn apart fresh handsOn again W args v W') :
    ReturnsInHanded a C os f .any (fun w args => (s.pre enc C.prog fn conds apart w args ∧ X w args) ∧ sizedMet enc C.prog fn (OpenSpec.ofChange s) apart w args) (s.post enc C.prog fn apart fresh handsOn again) := by
  refine returnsInHanded_of_calls own started noInit witness ?_
  intro w tape i _ hsh _ hok hpre hholds
  obtain ⟨_, _, _, fn', hfn', _, _, _, _, hval⟩ := hok
  have e : fn' = fn := Option.some.inj (hfn'.symm.trans hfn)
  subst e
  obtain ⟨⟨⟨ds, gs, before, hw, hc⟩, _⟩, hz⟩ := hpre
  have hw' := DataW.Whole.of_heap (w' := w.forCall tape i) (by rfl) hw
  refine (contract (w.forCall tape i) w.heap.size i.args ds gs before hval hw' hc (hz.weights hw) hsh hholds).mono fun e W' ⟨v, he, hp⟩ => ?_
  subst he
  exact ChangeSpec.post_blind hp
theorem own : ownKnob Tryz.prog.godebug = none := by kernel_rfl
theorem laidOut : laidOutB Tryz.prog = true := by kernel_rfl
set_option maxHeartbeats 4000000 in
set_option maxRecDepth 100000 in
theorem lifted (os : Os) (started : os.Started) (H : Type) (enc : TypeId × Value → H) :
    ReturnsInHanded {} Tryz.checked os 4 .any (fun w args => (Rows.tuplesOrderSpec.pre enc Tryz.prog Tryz.f4 Rows.tuplesOrderRow.domain false w args ∧ laidMetH Tryz.prog Rows.tuplesOrderRow.laid w) ∧ sizedMet enc Tryz.prog Tryz.f4 (OpenSpec.ofChange Rows.tuplesOrderSpec) false w args) (Rows.tuplesOrderSpec.post enc Tryz.prog Tryz.f4 false true false false) := by
  refine handed_and_shaped (C := Tryz.checked) (X := fun w _ => laidMetH Tryz.prog Rows.tuplesOrderRow.laid w) own started (by kernel_rfl) Tryz.func4
    (ChangeSpec.witness_shaped (enc := enc) (C := Tryz.checked) (os := os) (X := fun w _ => laidMetH Tryz.prog Rows.tuplesOrderRow.laid w) false (World.laidAll Tryz.prog os Rows.tuplesOrderRow.laid) #[.agg #[.string ByteArray.empty, .string ByteArray.empty, .string ByteArray.empty, .string ByteArray.empty, .string ByteArray.empty, .string ByteArray.empty, .string ByteArray.empty, .slice none 0 0], .agg #[.string ByteArray.empty, .string ByteArray.empty, .string ByteArray.empty, .string ByteArray.empty, .string ByteArray.empty, .string ByteArray.empty, .string ByteArray.empty, .slice none 0 0], .agg #[.string ByteArray.empty, .string ByteArray.empty, .string ByteArray.empty, .string ByteArray.empty, .string ByteArray.empty, .string ByteArray.empty, .string ByteArray.empty, .slice none 0 0]] 8 (World.laidAll_os _ _ _)
      (World.shaped_of_ZipB (by kernel_rfl) (by kernel_rfl)) (by kernel_rfl) (by kernel_rfl) (by kernel_rfl)
      (by rw [MakeChecks.laidMetH_plain _ _ _ (by kernel_rfl)]; exact laidMet_laidAll _ (by kernel_rfl) (by kernel_rfl))) ?_
  intro W base args ds gs before hval0 hW hcnd hsz0 hsh _
  have hsz : (DataW.weightsEach Tryz.prog (Tryz.f4.params.toList ++ Rows.tuplesOrderSpec.plain.varTypes Tryz.prog) (ds ++ gs)).all (· ≤ reachBytes) = true := hsz0
  have hval : ∀ (j : Nat) t v, Tryz.f4.params[j]? = some t → args[j]? = some v → Value.okWide Tryz.prog W .any base t v := hval0
  have hW' := hW
  obtain ⟨p, q, hA0, hV, rfl, hfz, hnd⟩ := hW
  have hA : DataW.TrodAll enc Tryz.prog W 0 (fun _ => true) true Tryz.f4.params.toList args.toList ds p := hA0
  rw [Tryz.params4] at hA hval hsz
  obtain ⟨v0, vs0, d0, ds0, p0, q0, hargs, rfl, rfl, h0, r0⟩ := trodAll_cons hA
  obtain ⟨v1, vs1, d1, ds1, p1, q1, rfl, rfl, rfl, h1, r1⟩ := trodAll_cons r0
  obtain ⟨v2, vs2, d2, ds2, p2, q2, rfl, rfl, rfl, h2, r2⟩ := trodAll_cons r1
  obtain ⟨rfl, rfl, rfl⟩ := trodAll_nil r2
  obtain rfl : args = #[v0, v1, v2] := by cases args; simp_all
  obtain ⟨rfl, rfl⟩ := trodVars_none hV
  have k0 := h0
  have lt0 : ∀ x ∈ p0, x.block < W.heap.size := by obtain ⟨m, hm⟩ := k0; exact DataW.trod_lt m _ _ _ hm
  obtain ⟨⟨l0⟩, rfl, _⟩ := okWide_struct Tryz.underlying29 (hval 0 29 v0 rfl rfl)
  obtain ⟨fu0, hf0⟩ := h0
  obtain ⟨s0_0, s0_1, s0_2, s0_3, s0_4, s0_5, s0_6, a0_7, n0_7, c0_7, m0_7, Y0_7, e0, x0, t0_7⟩ := Tu.open30 hf0
  have e0' : l0 = _ := e0
  subst e0'
  have x0' : d0 = _ := x0
  subst x0'
  clear e0 x0 hf0
  have k1 := h1
  have lt1 : ∀ x ∈ p1, x.block < W.heap.size := by obtain ⟨m, hm⟩ := k1; exact DataW.trod_lt m _ _ _ hm
  obtain ⟨⟨l1⟩, rfl, _⟩ := okWide_struct Tryz.underlying29 (hval 1 29 v1 rfl rfl)
  obtain ⟨fu1, hf1⟩ := h1
  obtain ⟨s1_0, s1_1, s1_2, s1_3, s1_4, s1_5, s1_6, a1_7, n1_7, c1_7, m1_7, Y1_7, e1, x1, t1_7⟩ := Tu.open30 hf1
  have e1' : l1 = _ := e1
  subst e1'
  have x1' : d1 = _ := x1
  subst x1'
  clear e1 x1 hf1
  have k2 := h2
  have lt2 : ∀ x ∈ p2, x.block < W.heap.size := by obtain ⟨m, hm⟩ := k2; exact DataW.trod_lt m _ _ _ hm
  obtain ⟨⟨l2⟩, rfl, _⟩ := okWide_struct Tryz.underlying29 (hval 2 29 v2 rfl rfl)
  obtain ⟨fu2, hf2⟩ := h2
  obtain ⟨s2_0, s2_1, s2_2, s2_3, s2_4, s2_5, s2_6, a2_7, n2_7, c2_7, m2_7, Y2_7, e2, x2, t2_7⟩ := Tu.open30 hf2
  have e2' : l2 = _ := e2
  subst e2'
  have x2' : d2 = _ := x2
  subst x2'
  clear e2 x2 hf2
  obtain ⟨A0, C0, L0, e7_0, hwL0, hp0⟩ := Tu.open_argsr t0_7
  injection e7_0 with ea en ec
  subst ea
  subst en
  subst ec
  have hw0 : ∀ m ∈ DataW.weights Tryz.prog 27 Y0_7.1, m ≤ 140737488351232 := fun m hm => by
    have z := List.all_eq_true.1 hsz _ (DataW.weights_mem_each (j := 0) (t := 29) rfl rfl m (by simp [DataW.weights, DataW.weightsEach, Tryz.underlying29, Tryz.underlying23, Tryz.underlying25, hm]))
    exact of_decide_eq_true z
  have hn0 : L0.length ≤ 2000000000000 := by
    by_cases he : L0 = []
    · rw [he]; simp
    · obtain ⟨m, h1, h2⟩ := hwL0 he
      have := hw0 m h2
      omega
  have hB0 : Tu.ArgsAt W a0_7 L0 := fun i a hi => by
    obtain ⟨⟨b, o, TA, tc, e, h7, ht⟩, hz, _⟩ := hp0 i a hi
    refine ⟨b, o, TA, tc, e, h7, ht, ?_⟩
    by_cases he : a.l = []
    · rw [he]; simp
    · obtain ⟨m, h1, h2⟩ := hz he
      have := hw0 m h2
      omega
  obtain ⟨A1, C1, L1, e7_1, hwL1, hp1⟩ := Tu.open_argsr t1_7
  injection e7_1 with ea en ec
  subst ea
  subst en
  subst ec
  have hw1 : ∀ m ∈ DataW.weights Tryz.prog 27 Y1_7.1, m ≤ 140737488351232 := fun m hm => by
    have z := List.all_eq_true.1 hsz _ (DataW.weights_mem_each (j := 1) (t := 29) rfl rfl m (by simp [DataW.weights, DataW.weightsEach, Tryz.underlying29, Tryz.underlying23, Tryz.underlying25, hm]))
    exact of_decide_eq_true z
  have hn1 : L1.length ≤ 2000000000000 := by
    by_cases he : L1 = []
    · rw [he]; simp
    · obtain ⟨m, h1, h2⟩ := hwL1 he
      have := hw1 m h2
      omega
  have hB1 : Tu.ArgsAt W a1_7 L1 := fun i a hi => by
    obtain ⟨⟨b, o, TA, tc, e, h7, ht⟩, hz, _⟩ := hp1 i a hi
    refine ⟨b, o, TA, tc, e, h7, ht, ?_⟩
    by_cases he : a.l = []
    · rw [he]; simp
    · obtain ⟨m, h1, h2⟩ := hz he
      have := hw1 m h2
      omega
  have hMX : Tu.MX W := Go.Proofs.cell_of_shapedOpen_int (zero := #[.int .i64 0]) (t := 3) hsh (of_decide_eq_true (by kernel_rfl)) (by kernel_rfl) rfl (by kernel_rfl) (by kernel_rfl) Tryz.underlying3
  clear hA0 hval0 hsz0
  refine (Tu.order_walk ⟨s0_0, s0_1, s0_2, s0_3, s0_4, s0_5, s0_6⟩ ⟨s1_0, s1_1, s1_2, s1_3, s1_4, s1_5, s1_6⟩ ⟨s2_0, s2_1, s2_2, s2_3, s2_4, s2_5, s2_6⟩ (c := c0_7) (c' := c1_7) (.slice a2_7 n2_7 c2_7) hMX hB0 hB1 rfl rfl hn0).mono fun e W' ⟨he, bel⟩ => ?_
  subst he
  exact ⟨_, rfl, _, _, _, [], _, [], hW', trodAll_mk1 (shut_bool Tryz.underlying4 _), (trodAll_cons_mk (Below.trod laidOut (by kernel_rfl) (of_decide_eq_true (by kernel_rfl)) k0 bel lt0) (trodAll_cons_mk (Below.trod laidOut (by kernel_rfl) (of_decide_eq_true (by kernel_rfl)) k1 bel lt1) (trodAll_cons_mk (Below.trod laidOut (by kernel_rfl) (of_decide_eq_true (by kernel_rfl)) k2 bel lt2) trodAll_mk0))), rfl, bel.frame _, fun h => by cases h⟩
theorem over : Rows.tuplesOrderRow.holds Tryz.pinned (OpenSpec.ofChange Rows.tuplesOrderSpec) :=
  OpenClaim.holds_of_wide 4 Tryz.f4 rfl rfl rfl rfl rfl rfl rfl ⟨rfl, rfl, rfl, rfl, rfl⟩ rfl rfl rfl rfl rfl (by kernel_rfl) Tryz.func4 (by kernel_rfl)
    (of_decide_eq_true (by kernel_rfl)) (by unfold Func.isWrapper; first | (rw [if_pos (by decide +kernel)]; kernel_rfl) | (rw [if_neg (by decide +kernel)]; exact ⟨rfl, rfl⟩))
    (fun os started H enc _ => lifted os started H enc)
theorem proved : Rows.TuplesOrderSaid := over
theorem card : Rows.TuplesOrderCardSaid :=
  Claim7.holds_tied_plain_at .later [] [.data, .data, .widerDeep, .widerDeep, .data, .data, .data, .data, .data, .data, .sentinel, .sentinel, .pinned, .pinned, .pinned] true (true, "52859dbe2b2ad282ce767958b604bdf605bd5f4d044d9f5e5f393c064a86cfed") true over (fun _ h => by cases h) (by kernel_rfl) (fun _ h => by cases h) tuplesOrder_row_tie rfl ⟨rfl, rfl⟩ (by kernel_rfl) rfl
    (fun f fn hf hfn => by
      obtain rfl : f = 4 := Option.some.inj ((show Tryz.prog.funcNamed "latchkey/latchkeylaw10.TuplesOrder" = some 4 by kernel_rfl).symm.trans hf) |>.symm
      obtain rfl : fn = Tryz.f4 := (Option.some.inj (Tryz.func4.symm.trans hfn)).symm
      exact ⟨by kernel_rfl, fun j t ht => by
        have hm : t ∈ Tryz.f4.params.toList := by simpa using Array.mem_of_getElem? ht
        have hall : (Tryz.f4.params.toList.all fun u => !Tryz.prog.wantsStandIn u) = true := by kernel_rfl
        exact (show Tryz.prog.wantsStandIn t = false by simpa using List.all_eq_true.1 hall t hm)⟩)
    (by kernel_rfl)
#print axioms card
end Go.Proofs.YtlhhpdomiioeiaaGreatDoor.tuplesOrder
namespace Go.Proofs.YtlhhpdomiioeiaaGreatDoor
/-- The row, under a short name, for the claim. -/
theorem tuplesOrder_holds : Rows.TuplesOrderCardSaid := tuplesOrder.card
end Go.Proofs.YtlhhpdomiioeiaaGreatDoor
