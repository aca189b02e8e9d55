import Derived.Test.YteledidnhjioaaaShK
namespace Go.Proofs.Yteledidnhjioaaa.Sh
open Go.RowKit Go.Lib Go.Proofs Go.Shelf
set_option linter.unusedVariables false
set_option linter.unusedSimpArgs false
attribute [local go_sem] Oper.semAt_some
theorem Later.grown {A B : World} (h : Later A B) : A.grownBy B none := ⟨h.os, h.tape, h.output, h.size, fun k hk _ => h.block k hk⟩
theorem abides_later {β : Type} {n : Nat} {J : β → World → Prop} (h : AbidesFrom n J) : ∀ s A B, J s A → Later A B → J s B := fun s A B hs k => h s A B none hs k.grown (fun _ e => by cases e)
abbrev encP (x : Int × Int) : Array Value := #[.agg #[.int .i64 x.1, .int .i64 x.2]]
/-- a function value that tells just these elements -/
def SeqT (X : Nat → Prop) (g : Nat) (lb : Array Value) (xs : List (Int × Int)) (w0 : World) : Prop :=
  ∀ n, SeqStopsK FW n Try.prog g lb encP (Chg X) (fun ys => ys = xs) (fun pre => pre <+: xs) xs.length w0
/-- never skipped -/
theorem skip_all (x : Int × Int) (W : World) : Calls Try.prog 59 (#[.agg #[.int .i64 x.1, .int .i64 x.2]] ++ #[]) W fun e W' => e = .returned (.bool false) ∧ Later W W' := by
  have hla : Later W (W.alloc (.cells #[.int .i64 x.1, .int .i64 x.2] 27)) := Later.two
  show Calls Try.prog 59 #[.agg #[.int .i64 x.1, .int .i64 x.2]] W _
  go_enter Try.func59, Try.ntmps59
  go_wp2
  go_ret
  exact ⟨rfl, hla⟩
theorem enters59 : ∀ args w, (callFunc 59 args).run Try.prog w = .ok (.enter 59 args) w := fun args w => enters_of Try.func59 (by kernel_rfl) rfl args w
theorem enters65 : ∀ args w, (callFunc 65 args).run Try.prog w = .ok (.enter 65 args) w := fun args w => enters_of Try.func65 (by kernel_rfl) rfl args w
theorem enters57 : ∀ args w, (callFunc 57 args).run Try.prog w = .ok (.enter 57 args) w := fun args w => enters_of Try.func57 (by kernel_rfl) rfl args w
theorem enters64 : ∀ args w, (callFunc 64 args).run Try.prog w = .ok (.enter 64 args) w := fun args w => enters_of Try.func64 (by kernel_rfl) rfl args w
/-- skipped, where below -/
theorem skip_from {c : Nat} {f : (Int × Int) → (Int × Int) → Int} (hc : Comp c f) (x : Int × Int) (cb xb : Nat) (y : Int × Int) (W : World)
    (h0 : W.cell? ⟨cb, 0, none⟩ = some (.func (.func c) #[] #[])) (h1 : W.cell? ⟨xb, 0, none⟩ = some (.int .i64 x.1)) (h2 : W.cell? ⟨xb, 1, none⟩ = some (.int .i64 x.2)) :
    Calls Try.prog 65 (#[.agg #[.int .i64 y.1, .int .i64 y.2]] ++ #[.pointer (some ⟨cb, 0, none⟩), .pointer (some ⟨xb, 0, none⟩)]) W fun e W' => e = .returned (.bool (decide (f y x < 0))) ∧ Later W W' := by
  have hla : Later W (W.alloc (.cells #[.int .i64 y.1, .int .i64 y.2] 27)) := Later.two
  have k0 := hla.cell h0
  have k1 := hla.cell h1
  have k2 := hla.cell h2
  have hen := hc.enters
  have hcc := hc.calls
  show Calls Try.prog 65 #[.agg #[.int .i64 y.1, .int .i64 y.2], .pointer (some ⟨cb, 0, none⟩), .pointer (some ⟨xb, 0, none⟩)] W _
  go_enter Try.func65, Try.ntmps65
  go_wp2_with ((with_reducible refine (hcc _ _ _).mono ?_); rintro e w1 ⟨rfl, hb1⟩)
  go_ret
  exact ⟨rfl, hla.next hb1⟩
set_option maxRecDepth 100000 in
set_option maxHeartbeats 4000000 in
theorem all_seq {X : Nat → Prop} {w : World} {bt : Nat} {p : Option Addr} {T : Tr (Int × Int)} (hb : w.cell? ⟨bt, 0, none⟩ = some (.pointer p)) (ht : Tree X w p T) : SeqT X 57 #[.pointer (some ⟨bt, 0, none⟩)] T.list w := by
  intro n l J Jx W hW hJ hJx hY h0
  obtain ⟨ok, hT, hX⟩ := ht.keep (Later.chg hW)
  have hcell := Later.cell hW hb
  have hwk := tree_walk l T.list.length (Q := fun _ => True) (fun _ _ _ _ => trivial) (fun _ _ _ _ => trivial) hX (fun x W _ => skip_all x W) enters59 (abides_later hJ) (abides_later hJx)
    (fun m pre x W1 hj hl => YieldAt.anyDepth rfl m (hY pre x W1 hj hl)) T (n - 1) p [] W hT trivial h0 (by simp [from_all])
  rw [from_all] at hwk
  show CallsIn FW n Try.prog 57 #[.func (.yield l) #[] #[], .pointer (some ⟨bt, 0, none⟩)] W _
  refine callsIn_of_wp Try.func57 rfl trivial ?_ rfl
  simp only [Try.ntmps57, List.size_toArray, List.length_cons, List.length_nil, Nat.reduceAdd, Nat.reduceSub, Array.replicate_succ, Array.replicate_zero, List.push_toArray, List.append_toArray, List.nil_append, List.cons_append]
  have h58 : FW.fn 58 := trivial
  gi_wp2_with ((try refine ⟨fun h => (by cases h), ?_⟩); gi_at_call 58; refine hwk.mono ?_; clear hwk; rintro e W1 (⟨rfl, hJ1, _⟩ | ⟨rfl, q, hq, hx⟩))
  · go_end0
    exact ⟨⟨_, rfl⟩, .inl ⟨_, rfl, by simpa using hJ1⟩⟩
  · go_end0
    exact ⟨⟨_, rfl⟩, .inr ⟨q, hq, by simpa using hx⟩⟩
set_option maxRecDepth 100000 in
set_option maxHeartbeats 4000000 in
theorem from_seq {X : Nat → Prop} {w : World} {bt cb xb : Nat} {p : Option Addr} {T : Tr (Int × Int)} {c : Nat} {f : (Int × Int) → (Int × Int) → Int} (hc : Comp c f) (x : Int × Int) (hb : w.cell? ⟨bt, 0, none⟩ = some (.pointer p)) (ht : Tree X w p T)
    (h0' : w.cell? ⟨cb, 0, none⟩ = some (.func (.func c) #[] #[])) (h1' : w.cell? ⟨xb, 0, none⟩ = some (.int .i64 x.1)) (h2' : w.cell? ⟨xb, 1, none⟩ = some (.int .i64 x.2)) (hcX : ¬ X cb) (hxX : ¬ X xb) :
    SeqT X 64 #[.pointer (some ⟨bt, 0, none⟩), .pointer (some ⟨cb, 0, none⟩), .pointer (some ⟨xb, 0, none⟩)] (T.from_ fun y => decide (f y x < 0)) w := by
  intro n l J Jx W hW hJ hJx hY h0
  obtain ⟨ok, hT, hX⟩ := ht.keep (Later.chg hW)
  have hcell := Later.cell hW hb
  let Q : World → Prop := fun W => W.cell? ⟨cb, 0, none⟩ = some (.func (.func c) #[] #[]) ∧ W.cell? ⟨xb, 0, none⟩ = some (.int .i64 x.1) ∧ W.cell? ⟨xb, 1, none⟩ = some (.int .i64 x.2)
  have hq0 : Q W := ⟨Later.cell hW h0', Later.cell hW h1', Later.cell hW h2'⟩
  have hql : ∀ A B, Q A → Later A B → Q B := fun A B h k => ⟨k.cell h.1, k.cell h.2.1, k.cell h.2.2⟩
  have hqk : ∀ A B, Q A → Chg X A B → Q B := fun A B h k =>
    have e : ∀ b o v, ¬ X b → A.cell? ⟨b, o, none⟩ = some v → B.cell? ⟨b, o, none⟩ = some v := fun b o v hb hv => (World.cell?_of_block (w := A) (a := ⟨b, o, none⟩) (k.block b (cell_lt hv) hb)).trans hv
    ⟨e _ _ _ hcX h.1, e _ _ _ hxX h.2.1, e _ _ _ hxX h.2.2⟩
  have hwk := tree_walk l (T.from_ fun y => decide (f y x < 0)).length (Q := Q) (cap := #[.pointer (some ⟨cb, 0, none⟩), .pointer (some ⟨xb, 0, none⟩)]) hql hqk hX (fun y W h => skip_from hc x cb xb y W h.1 h.2.1 h.2.2) enters65 (abides_later hJ) (abides_later hJx)
    (fun m pre x W1 hj hl => YieldAt.anyDepth rfl m (hY pre x W1 hj hl)) T (n - 1) p [] W hT hq0 h0 (by simp)
  show CallsIn FW n Try.prog 64 #[.func (.yield l) #[] #[], .pointer (some ⟨bt, 0, none⟩), .pointer (some ⟨cb, 0, none⟩), .pointer (some ⟨xb, 0, none⟩)] W _
  clear_value Q
  clear hql hqk hq0
  refine callsIn_of_wp Try.func64 rfl trivial ?_ rfl
  simp only [Try.ntmps64, List.size_toArray, List.length_cons, List.length_nil, Nat.reduceAdd, Nat.reduceSub, Array.replicate_succ, Array.replicate_zero, List.push_toArray, List.append_toArray, List.nil_append, List.cons_append]
  have h58 : FW.fn 58 := trivial
  gi_wp2_with ((try refine ⟨fun h => (by cases h), ?_⟩); gi_at_call 58; refine hwk.mono ?_; clear hwk; rintro e W1 (⟨rfl, hJ1, _⟩ | ⟨rfl, q, hq, hx⟩))
  · go_end0
    exact ⟨⟨_, rfl⟩, .inl ⟨_, rfl, by simpa using hJ1⟩⟩
  · go_end0
    exact ⟨⟨_, rfl⟩, .inr ⟨q, hq, by simpa using hx⟩⟩
end Go.Proofs.Yteledidnhjioaaa.Sh
