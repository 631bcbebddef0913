/- Contracts by the symbolic walk: plan_in, plan_look_round, plan_look_e, plan_look_g, plan_look_a, plan_look_leastPi, plan_look_leastWindow, plan_look_leastCap, plan_look_leastOff, plan_look_leastSlot, plan_look_leastDelta, plan_look_nodes, plan_look_air, plan_look_slot, plan_look_pi, plan_look_window, plan_look_limit, plan_look_sends, plan_look_fits, plan_look_queue, plan_look_delta, plan_look_horizon, plan_look_known, plan_Fails, plan_Check, plan_Round, table_middle, table_has, table_spot_number, table_spot_begin, table_spot_sends, table_spot_expected, table_Begin, table_Sends, table_Expected, table_Of, table_Next, table_Middle. -/
import Derived.Test.YtlekjgjhbanimaaProg
import Derived.Test.YtlekjgjhbanimaaSXo
namespace Go.Proofs.Ytlekjgjhbanimaa.S
open Go Go.RowKit Go.Proofs.Ytlekjgjhbanimaa.SX Go.Proofs
set_option linter.unusedVariables false
noncomputable section
theorem named : Named Try.prog := by
  intro f fn h
  have hall : (Try.prog.funcs.toList.all fun fn => !(fn.name == "runtime.NumGoroutine")) = true := by kernel_rfl
  have := List.all_eq_true.1 hall fn (List.mem_of_getElem? (show Try.prog.funcs.toList[f]? = some fn by simpa using h))
  simpa using this
theorem mixed : Try.prog.follows .mixedOrders = true := by kernel_rfl
def r_bool.dec : AV → Heap → Nat → Option Bool := fun v _ _ => dB v
def r_bool.enc (r : Bool) : AV := .bool (.s r)
abbrev r_bool.val (r : Bool) : Value := .bool r
theorem r_bool.enc_rel (ρ : Pl) (r : Bool) : (r_bool.enc r).rel ρ (r_bool.val r) := AV.flat_rel _ rfl
theorem r_bool.ok {v : AV} {H : Heap} {hn : Nat} {r : Bool} {ρ : Pl} {x : Value} (h : r_bool.dec v H hn = some r) (hx : v.rel ρ x) : x = r_bool.val r := by
  unfold r_bool.dec at h
  exact dB_ok h hx
def plan_in.f (a0 : Int) (a1 : Int) (a2 : Int) : Option Bool :=
  (if a0 ≥ a1 then some (decide (a0 ≤ a2)) else some false)
set_option maxRecDepth 100000 in
theorem plan_in.calls (a0 : Int) (a1 : Int) (a2 : Int) (r : Bool) (w : World) (h : plan_in.f a0 a1 a2 = some r) :
    Calls Try.prog 61 #[.int .i64 a0, .int .i64 a1, .int .i64 a2] w fun e w' => e = .returned (.bool r) ∧ Below w.heap.size w w' := by
  have ht : (walk Try.prog (ctOf []) noL 100000 61 [.int .i64 (.s a0), .int .i64 (.s a1), .int .i64 (.s a2)] [] 0).opt r_bool.dec = plan_in.f a0 a1 a2 := by kernel_rfl
  exact calls_of named mixed (TabOK.nil).ct noL_ok ht h (by kernel_rfl) (by kernel_rfl) w fun _ _ _ _ _ hd hx => r_bool.ok hd hx
noncomputable def plan_in.c : Entry := fun args _ _ => aI .i64 args fun a0 args => aI .i64 args fun a1 args => aI .i64 args fun a2 args => aN args (some { o := plan_in.f a0 a1 a2, enc := r_bool.enc })
theorem plan_in.ok : EntryOK Try.prog 61 plan_in.c := by
  intro args H hn c h _ r hr ρ w xs hx hrel
  unfold plan_in.c at h
  obtain ⟨a0, xs, args, rfl, hx, h⟩ := aI_ok h hx
  obtain ⟨a1, xs, args, rfl, hx, h⟩ := aI_ok h hx
  obtain ⟨a2, xs, args, rfl, hx, h⟩ := aI_ok h hx
  obtain ⟨rfl, h⟩ := aN_ok h hx
  cases h
  refine (plan_in.calls a0 a1 a2 r w hr).mono ?_
  rintro e w' ⟨rfl, hb⟩
  exact ⟨_, ρ, rfl, r_bool.enc_rel ρ r, ⟨rfl, hrel.below hb⟩, Eff.of_below hb⟩
noncomputable def t_plan_in : List (Nat × Entry) := (61, plan_in.c) :: []
theorem t_plan_in_ok : TabOK Try.prog t_plan_in := TabOK.cons plan_in.ok TabOK.nil
def r_i64.dec : AV → Heap → Nat → Option Int := fun v _ _ => dI .i64 v
def r_i64.enc (r : Int) : AV := .int .i64 (.s r)
abbrev r_i64.val (r : Int) : Value := .int .i64 r
theorem r_i64.enc_rel (ρ : Pl) (r : Int) : (r_i64.enc r).rel ρ (r_i64.val r) := AV.flat_rel _ rfl
theorem r_i64.ok {v : AV} {H : Heap} {hn : Nat} {r : Int} {ρ : Pl} {x : Value} (h : r_i64.dec v H hn = some r) (hx : v.rel ρ x) : x = r_i64.val r := by
  unfold r_i64.dec at h
  exact dI_ok h hx
def g_i64x16 (args : List AV) (f : Int → Int → Int → Int → Int → Int → Int → Int → Int → Int → Int → Int → Int → Int → Int → Int → List AV → Option Con) : Option Con := aG args fun l r => aI .i64 l fun x0 l => aI .i64 l fun x1 l => aI .i64 l fun x2 l => aI .i64 l fun x3 l => aI .i64 l fun x4 l => aI .i64 l fun x5 l => aI .i64 l fun x6 l => aI .i64 l fun x7 l => aI .i64 l fun x8 l => aI .i64 l fun x9 l => aI .i64 l fun x10 l => aI .i64 l fun x11 l => aI .i64 l fun x12 l => aI .i64 l fun x13 l => aI .i64 l fun x14 l => aI .i64 l fun x15 l => aN l (f x0 x1 x2 x3 x4 x5 x6 x7 x8 x9 x10 x11 x12 x13 x14 x15 r)
theorem g_i64x16_ok {ρ : Pl} {args : List AV} {xs : List Value} {c : Con} {f : Int → Int → Int → Int → Int → Int → Int → Int → Int → Int → Int → Int → Int → Int → Int → Int → List AV → Option Con} (h : g_i64x16 args f = some c) (hx : AV.relL ρ args xs) :
    ∃ x0 x1 x2 x3 x4 x5 x6 x7 x8 x9 x10 x11 x12 x13 x14 x15 xs' l, xs = .agg #[.int .i64 x0, .int .i64 x1, .int .i64 x2, .int .i64 x3, .int .i64 x4, .int .i64 x5, .int .i64 x6, .int .i64 x7, .int .i64 x8, .int .i64 x9, .int .i64 x10, .int .i64 x11, .int .i64 x12, .int .i64 x13, .int .i64 x14, .int .i64 x15] :: xs' ∧ AV.relL ρ l xs' ∧ f x0 x1 x2 x3 x4 x5 x6 x7 x8 x9 x10 x11 x12 x13 x14 x15 l = some c := by
  unfold g_i64x16 at h
  obtain ⟨vs, xs', l, r, rfl, hl, hr, h⟩ := aG_ok h hx
  clear hx
  obtain ⟨x0, vs, l, rfl, hl, h⟩ := aI_ok h hl
  obtain ⟨x1, vs, l, rfl, hl, h⟩ := aI_ok h hl
  obtain ⟨x2, vs, l, rfl, hl, h⟩ := aI_ok h hl
  obtain ⟨x3, vs, l, rfl, hl, h⟩ := aI_ok h hl
  obtain ⟨x4, vs, l, rfl, hl, h⟩ := aI_ok h hl
  obtain ⟨x5, vs, l, rfl, hl, h⟩ := aI_ok h hl
  obtain ⟨x6, vs, l, rfl, hl, h⟩ := aI_ok h hl
  obtain ⟨x7, vs, l, rfl, hl, h⟩ := aI_ok h hl
  obtain ⟨x8, vs, l, rfl, hl, h⟩ := aI_ok h hl
  obtain ⟨x9, vs, l, rfl, hl, h⟩ := aI_ok h hl
  obtain ⟨x10, vs, l, rfl, hl, h⟩ := aI_ok h hl
  obtain ⟨x11, vs, l, rfl, hl, h⟩ := aI_ok h hl
  obtain ⟨x12, vs, l, rfl, hl, h⟩ := aI_ok h hl
  obtain ⟨x13, vs, l, rfl, hl, h⟩ := aI_ok h hl
  obtain ⟨x14, vs, l, rfl, hl, h⟩ := aI_ok h hl
  obtain ⟨x15, vs, l, rfl, hl, h⟩ := aI_ok h hl
  obtain ⟨rfl, h⟩ := aN_ok h hl
  exact ⟨x0, x1, x2, x3, x4, x5, x6, x7, x8, x9, x10, x11, x12, x13, x14, x15, xs', r, rfl, hr, h⟩
def plan_look_round.f (a0_0 : Int) (a0_1 : Int) (a0_2 : Int) (a0_3 : Int) (a0_4 : Int) (a0_5 : Int) (a0_6 : Int) (a0_7 : Int) (a0_8 : Int) (a0_9 : Int) (a0_10 : Int) (a0_11 : Int) (a0_12 : Int) (a0_13 : Int) (a0_14 : Int) (a0_15 : Int) : Option Int :=
  some (wrap64 (a0_0 * a0_2))
set_option maxRecDepth 100000 in
theorem plan_look_round.calls (a0_0 : Int) (a0_1 : Int) (a0_2 : Int) (a0_3 : Int) (a0_4 : Int) (a0_5 : Int) (a0_6 : Int) (a0_7 : Int) (a0_8 : Int) (a0_9 : Int) (a0_10 : Int) (a0_11 : Int) (a0_12 : Int) (a0_13 : Int) (a0_14 : Int) (a0_15 : Int) (r : Int) (w : World) (h : plan_look_round.f a0_0 a0_1 a0_2 a0_3 a0_4 a0_5 a0_6 a0_7 a0_8 a0_9 a0_10 a0_11 a0_12 a0_13 a0_14 a0_15 = some r) :
    Calls Try.prog 53 #[.agg #[.int .i64 a0_0, .int .i64 a0_1, .int .i64 a0_2, .int .i64 a0_3, .int .i64 a0_4, .int .i64 a0_5, .int .i64 a0_6, .int .i64 a0_7, .int .i64 a0_8, .int .i64 a0_9, .int .i64 a0_10, .int .i64 a0_11, .int .i64 a0_12, .int .i64 a0_13, .int .i64 a0_14, .int .i64 a0_15]] w fun e w' => e = .returned (.int .i64 r) ∧ Below w.heap.size w w' := by
  have ht : (walk Try.prog (ctOf t_plan_in) noL 100000 53 [.agg [.int .i64 (.s a0_0), .int .i64 (.s a0_1), .int .i64 (.s a0_2), .int .i64 (.s a0_3), .int .i64 (.s a0_4), .int .i64 (.s a0_5), .int .i64 (.s a0_6), .int .i64 (.s a0_7), .int .i64 (.s a0_8), .int .i64 (.s a0_9), .int .i64 (.s a0_10), .int .i64 (.s a0_11), .int .i64 (.s a0_12), .int .i64 (.s a0_13), .int .i64 (.s a0_14), .int .i64 (.s a0_15)]] [] 0).opt r_i64.dec = plan_look_round.f a0_0 a0_1 a0_2 a0_3 a0_4 a0_5 a0_6 a0_7 a0_8 a0_9 a0_10 a0_11 a0_12 a0_13 a0_14 a0_15 := by kernel_rfl
  exact calls_of named mixed t_plan_in_ok.ct noL_ok ht h (by kernel_rfl) (by kernel_rfl) w fun _ _ _ _ _ hd hx => r_i64.ok hd hx
noncomputable def plan_look_round.c : Entry := fun args _ _ => g_i64x16 args fun a0_0 a0_1 a0_2 a0_3 a0_4 a0_5 a0_6 a0_7 a0_8 a0_9 a0_10 a0_11 a0_12 a0_13 a0_14 a0_15 args => aN args (some { o := plan_look_round.f a0_0 a0_1 a0_2 a0_3 a0_4 a0_5 a0_6 a0_7 a0_8 a0_9 a0_10 a0_11 a0_12 a0_13 a0_14 a0_15, enc := r_i64.enc })
theorem plan_look_round.ok : EntryOK Try.prog 53 plan_look_round.c := by
  intro args H hn c h _ r hr ρ w xs hx hrel
  unfold plan_look_round.c at h
  obtain ⟨a0_0, a0_1, a0_2, a0_3, a0_4, a0_5, a0_6, a0_7, a0_8, a0_9, a0_10, a0_11, a0_12, a0_13, a0_14, a0_15, xs, args, rfl, hx, h⟩ := g_i64x16_ok h hx
  obtain ⟨rfl, h⟩ := aN_ok h hx
  cases h
  refine (plan_look_round.calls a0_0 a0_1 a0_2 a0_3 a0_4 a0_5 a0_6 a0_7 a0_8 a0_9 a0_10 a0_11 a0_12 a0_13 a0_14 a0_15 r w hr).mono ?_
  rintro e w' ⟨rfl, hb⟩
  exact ⟨_, ρ, rfl, r_i64.enc_rel ρ r, ⟨rfl, hrel.below hb⟩, Eff.of_below hb⟩
noncomputable def t_plan_look_round : List (Nat × Entry) := (53, plan_look_round.c) :: t_plan_in
theorem t_plan_look_round_ok : TabOK Try.prog t_plan_look_round := TabOK.cons plan_look_round.ok t_plan_in_ok
def plan_look_e.f (a0_0 : Int) (a0_1 : Int) (a0_2 : Int) (a0_3 : Int) (a0_4 : Int) (a0_5 : Int) (a0_6 : Int) (a0_7 : Int) (a0_8 : Int) (a0_9 : Int) (a0_10 : Int) (a0_11 : Int) (a0_12 : Int) (a0_13 : Int) (a0_14 : Int) (a0_15 : Int) : Option Int :=
  some (wrap64 (wrap64 (a0_7 - a0_6) + 6))
set_option maxRecDepth 100000 in
theorem plan_look_e.calls (a0_0 : Int) (a0_1 : Int) (a0_2 : Int) (a0_3 : Int) (a0_4 : Int) (a0_5 : Int) (a0_6 : Int) (a0_7 : Int) (a0_8 : Int) (a0_9 : Int) (a0_10 : Int) (a0_11 : Int) (a0_12 : Int) (a0_13 : Int) (a0_14 : Int) (a0_15 : Int) (r : Int) (w : World) (h : plan_look_e.f a0_0 a0_1 a0_2 a0_3 a0_4 a0_5 a0_6 a0_7 a0_8 a0_9 a0_10 a0_11 a0_12 a0_13 a0_14 a0_15 = some r) :
    Calls Try.prog 78 #[.agg #[.int .i64 a0_0, .int .i64 a0_1, .int .i64 a0_2, .int .i64 a0_3, .int .i64 a0_4, .int .i64 a0_5, .int .i64 a0_6, .int .i64 a0_7, .int .i64 a0_8, .int .i64 a0_9, .int .i64 a0_10, .int .i64 a0_11, .int .i64 a0_12, .int .i64 a0_13, .int .i64 a0_14, .int .i64 a0_15]] w fun e w' => e = .returned (.int .i64 r) ∧ Below w.heap.size w w' := by
  have ht : (walk Try.prog (ctOf t_plan_look_round) noL 100000 78 [.agg [.int .i64 (.s a0_0), .int .i64 (.s a0_1), .int .i64 (.s a0_2), .int .i64 (.s a0_3), .int .i64 (.s a0_4), .int .i64 (.s a0_5), .int .i64 (.s a0_6), .int .i64 (.s a0_7), .int .i64 (.s a0_8), .int .i64 (.s a0_9), .int .i64 (.s a0_10), .int .i64 (.s a0_11), .int .i64 (.s a0_12), .int .i64 (.s a0_13), .int .i64 (.s a0_14), .int .i64 (.s a0_15)]] [] 0).opt r_i64.dec = plan_look_e.f a0_0 a0_1 a0_2 a0_3 a0_4 a0_5 a0_6 a0_7 a0_8 a0_9 a0_10 a0_11 a0_12 a0_13 a0_14 a0_15 := by kernel_rfl
  exact calls_of named mixed t_plan_look_round_ok.ct noL_ok ht h (by kernel_rfl) (by kernel_rfl) w fun _ _ _ _ _ hd hx => r_i64.ok hd hx
noncomputable def plan_look_e.c : Entry := fun args _ _ => g_i64x16 args fun a0_0 a0_1 a0_2 a0_3 a0_4 a0_5 a0_6 a0_7 a0_8 a0_9 a0_10 a0_11 a0_12 a0_13 a0_14 a0_15 args => aN args (some { o := plan_look_e.f a0_0 a0_1 a0_2 a0_3 a0_4 a0_5 a0_6 a0_7 a0_8 a0_9 a0_10 a0_11 a0_12 a0_13 a0_14 a0_15, enc := r_i64.enc })
theorem plan_look_e.ok : EntryOK Try.prog 78 plan_look_e.c := by
  intro args H hn c h _ r hr ρ w xs hx hrel
  unfold plan_look_e.c at h
  obtain ⟨a0_0, a0_1, a0_2, a0_3, a0_4, a0_5, a0_6, a0_7, a0_8, a0_9, a0_10, a0_11, a0_12, a0_13, a0_14, a0_15, xs, args, rfl, hx, h⟩ := g_i64x16_ok h hx
  obtain ⟨rfl, h⟩ := aN_ok h hx
  cases h
  refine (plan_look_e.calls a0_0 a0_1 a0_2 a0_3 a0_4 a0_5 a0_6 a0_7 a0_8 a0_9 a0_10 a0_11 a0_12 a0_13 a0_14 a0_15 r w hr).mono ?_
  rintro e w' ⟨rfl, hb⟩
  exact ⟨_, ρ, rfl, r_i64.enc_rel ρ r, ⟨rfl, hrel.below hb⟩, Eff.of_below hb⟩
noncomputable def t_plan_look_e : List (Nat × Entry) := (78, plan_look_e.c) :: t_plan_look_round
theorem t_plan_look_e_ok : TabOK Try.prog t_plan_look_e := TabOK.cons plan_look_e.ok t_plan_look_round_ok
def plan_look_g.f (a0_0 : Int) (a0_1 : Int) (a0_2 : Int) (a0_3 : Int) (a0_4 : Int) (a0_5 : Int) (a0_6 : Int) (a0_7 : Int) (a0_8 : Int) (a0_9 : Int) (a0_10 : Int) (a0_11 : Int) (a0_12 : Int) (a0_13 : Int) (a0_14 : Int) (a0_15 : Int) : Option Int :=
  ((plan_look_round.f a0_0 a0_1 a0_2 a0_3 a0_4 a0_5 a0_6 a0_7 a0_8 a0_9 a0_10 a0_11 a0_12 a0_13 a0_14 a0_15).bind fun t0 => (if a0_8 = 0 then none else some (wrap64 (2 * wrap64 (wrap64 ((wrap64 (2 * t0)).tdiv a0_8) + 4)))))
set_option maxRecDepth 100000 in
theorem plan_look_g.calls (a0_0 : Int) (a0_1 : Int) (a0_2 : Int) (a0_3 : Int) (a0_4 : Int) (a0_5 : Int) (a0_6 : Int) (a0_7 : Int) (a0_8 : Int) (a0_9 : Int) (a0_10 : Int) (a0_11 : Int) (a0_12 : Int) (a0_13 : Int) (a0_14 : Int) (a0_15 : Int) (r : Int) (w : World) (h : plan_look_g.f a0_0 a0_1 a0_2 a0_3 a0_4 a0_5 a0_6 a0_7 a0_8 a0_9 a0_10 a0_11 a0_12 a0_13 a0_14 a0_15 = some r) :
    Calls Try.prog 77 #[.agg #[.int .i64 a0_0, .int .i64 a0_1, .int .i64 a0_2, .int .i64 a0_3, .int .i64 a0_4, .int .i64 a0_5, .int .i64 a0_6, .int .i64 a0_7, .int .i64 a0_8, .int .i64 a0_9, .int .i64 a0_10, .int .i64 a0_11, .int .i64 a0_12, .int .i64 a0_13, .int .i64 a0_14, .int .i64 a0_15]] w fun e w' => e = .returned (.int .i64 r) ∧ Below w.heap.size w w' := by
  have ht : (walk Try.prog (ctOf t_plan_look_e) noL 100000 77 [.agg [.int .i64 (.s a0_0), .int .i64 (.s a0_1), .int .i64 (.s a0_2), .int .i64 (.s a0_3), .int .i64 (.s a0_4), .int .i64 (.s a0_5), .int .i64 (.s a0_6), .int .i64 (.s a0_7), .int .i64 (.s a0_8), .int .i64 (.s a0_9), .int .i64 (.s a0_10), .int .i64 (.s a0_11), .int .i64 (.s a0_12), .int .i64 (.s a0_13), .int .i64 (.s a0_14), .int .i64 (.s a0_15)]] [] 0).opt r_i64.dec = plan_look_g.f a0_0 a0_1 a0_2 a0_3 a0_4 a0_5 a0_6 a0_7 a0_8 a0_9 a0_10 a0_11 a0_12 a0_13 a0_14 a0_15 := by kernel_rfl
  exact calls_of named mixed t_plan_look_e_ok.ct noL_ok ht h (by kernel_rfl) (by kernel_rfl) w fun _ _ _ _ _ hd hx => r_i64.ok hd hx
noncomputable def plan_look_g.c : Entry := fun args _ _ => g_i64x16 args fun a0_0 a0_1 a0_2 a0_3 a0_4 a0_5 a0_6 a0_7 a0_8 a0_9 a0_10 a0_11 a0_12 a0_13 a0_14 a0_15 args => aN args (some { o := plan_look_g.f a0_0 a0_1 a0_2 a0_3 a0_4 a0_5 a0_6 a0_7 a0_8 a0_9 a0_10 a0_11 a0_12 a0_13 a0_14 a0_15, enc := r_i64.enc })
theorem plan_look_g.ok : EntryOK Try.prog 77 plan_look_g.c := by
  intro args H hn c h _ r hr ρ w xs hx hrel
  unfold plan_look_g.c at h
  obtain ⟨a0_0, a0_1, a0_2, a0_3, a0_4, a0_5, a0_6, a0_7, a0_8, a0_9, a0_10, a0_11, a0_12, a0_13, a0_14, a0_15, xs, args, rfl, hx, h⟩ := g_i64x16_ok h hx
  obtain ⟨rfl, h⟩ := aN_ok h hx
  cases h
  refine (plan_look_g.calls a0_0 a0_1 a0_2 a0_3 a0_4 a0_5 a0_6 a0_7 a0_8 a0_9 a0_10 a0_11 a0_12 a0_13 a0_14 a0_15 r w hr).mono ?_
  rintro e w' ⟨rfl, hb⟩
  exact ⟨_, ρ, rfl, r_i64.enc_rel ρ r, ⟨rfl, hrel.below hb⟩, Eff.of_below hb⟩
noncomputable def t_plan_look_g : List (Nat × Entry) := (77, plan_look_g.c) :: t_plan_look_e
theorem t_plan_look_g_ok : TabOK Try.prog t_plan_look_g := TabOK.cons plan_look_g.ok t_plan_look_e_ok
def plan_look_a.f (a0_0 : Int) (a0_1 : Int) (a0_2 : Int) (a0_3 : Int) (a0_4 : Int) (a0_5 : Int) (a0_6 : Int) (a0_7 : Int) (a0_8 : Int) (a0_9 : Int) (a0_10 : Int) (a0_11 : Int) (a0_12 : Int) (a0_13 : Int) (a0_14 : Int) (a0_15 : Int) : Option Int :=
  ((plan_look_e.f a0_0 a0_1 a0_2 a0_3 a0_4 a0_5 a0_6 a0_7 a0_8 a0_9 a0_10 a0_11 a0_12 a0_13 a0_14 a0_15).bind fun t0 => ((plan_look_g.f a0_0 a0_1 a0_2 a0_3 a0_4 a0_5 a0_6 a0_7 a0_8 a0_9 a0_10 a0_11 a0_12 a0_13 a0_14 a0_15).bind fun t1 => some (wrap64 (2 * wrap64 (t0 + t1)))))
set_option maxRecDepth 100000 in
theorem plan_look_a.calls (a0_0 : Int) (a0_1 : Int) (a0_2 : Int) (a0_3 : Int) (a0_4 : Int) (a0_5 : Int) (a0_6 : Int) (a0_7 : Int) (a0_8 : Int) (a0_9 : Int) (a0_10 : Int) (a0_11 : Int) (a0_12 : Int) (a0_13 : Int) (a0_14 : Int) (a0_15 : Int) (r : Int) (w : World) (h : plan_look_a.f a0_0 a0_1 a0_2 a0_3 a0_4 a0_5 a0_6 a0_7 a0_8 a0_9 a0_10 a0_11 a0_12 a0_13 a0_14 a0_15 = some r) :
    Calls Try.prog 76 #[.agg #[.int .i64 a0_0, .int .i64 a0_1, .int .i64 a0_2, .int .i64 a0_3, .int .i64 a0_4, .int .i64 a0_5, .int .i64 a0_6, .int .i64 a0_7, .int .i64 a0_8, .int .i64 a0_9, .int .i64 a0_10, .int .i64 a0_11, .int .i64 a0_12, .int .i64 a0_13, .int .i64 a0_14, .int .i64 a0_15]] w fun e w' => e = .returned (.int .i64 r) ∧ Below w.heap.size w w' := by
  have ht : (walk Try.prog (ctOf t_plan_look_g) noL 100000 76 [.agg [.int .i64 (.s a0_0), .int .i64 (.s a0_1), .int .i64 (.s a0_2), .int .i64 (.s a0_3), .int .i64 (.s a0_4), .int .i64 (.s a0_5), .int .i64 (.s a0_6), .int .i64 (.s a0_7), .int .i64 (.s a0_8), .int .i64 (.s a0_9), .int .i64 (.s a0_10), .int .i64 (.s a0_11), .int .i64 (.s a0_12), .int .i64 (.s a0_13), .int .i64 (.s a0_14), .int .i64 (.s a0_15)]] [] 0).opt r_i64.dec = plan_look_a.f a0_0 a0_1 a0_2 a0_3 a0_4 a0_5 a0_6 a0_7 a0_8 a0_9 a0_10 a0_11 a0_12 a0_13 a0_14 a0_15 := by kernel_rfl
  exact calls_of named mixed t_plan_look_g_ok.ct noL_ok ht h (by kernel_rfl) (by kernel_rfl) w fun _ _ _ _ _ hd hx => r_i64.ok hd hx
noncomputable def plan_look_a.c : Entry := fun args _ _ => g_i64x16 args fun a0_0 a0_1 a0_2 a0_3 a0_4 a0_5 a0_6 a0_7 a0_8 a0_9 a0_10 a0_11 a0_12 a0_13 a0_14 a0_15 args => aN args (some { o := plan_look_a.f a0_0 a0_1 a0_2 a0_3 a0_4 a0_5 a0_6 a0_7 a0_8 a0_9 a0_10 a0_11 a0_12 a0_13 a0_14 a0_15, enc := r_i64.enc })
theorem plan_look_a.ok : EntryOK Try.prog 76 plan_look_a.c := by
  intro args H hn c h _ r hr ρ w xs hx hrel
  unfold plan_look_a.c at h
  obtain ⟨a0_0, a0_1, a0_2, a0_3, a0_4, a0_5, a0_6, a0_7, a0_8, a0_9, a0_10, a0_11, a0_12, a0_13, a0_14, a0_15, xs, args, rfl, hx, h⟩ := g_i64x16_ok h hx
  obtain ⟨rfl, h⟩ := aN_ok h hx
  cases h
  refine (plan_look_a.calls a0_0 a0_1 a0_2 a0_3 a0_4 a0_5 a0_6 a0_7 a0_8 a0_9 a0_10 a0_11 a0_12 a0_13 a0_14 a0_15 r w hr).mono ?_
  rintro e w' ⟨rfl, hb⟩
  exact ⟨_, ρ, rfl, r_i64.enc_rel ρ r, ⟨rfl, hrel.below hb⟩, Eff.of_below hb⟩
noncomputable def t_plan_look_a : List (Nat × Entry) := (76, plan_look_a.c) :: t_plan_look_g
theorem t_plan_look_a_ok : TabOK Try.prog t_plan_look_a := TabOK.cons plan_look_a.ok t_plan_look_g_ok
def plan_look_leastPi.f (a0_0 : Int) (a0_1 : Int) (a0_2 : Int) (a0_3 : Int) (a0_4 : Int) (a0_5 : Int) (a0_6 : Int) (a0_7 : Int) (a0_8 : Int) (a0_9 : Int) (a0_10 : Int) (a0_11 : Int) (a0_12 : Int) (a0_13 : Int) (a0_14 : Int) (a0_15 : Int) : Option Int :=
  ((plan_look_a.f a0_0 a0_1 a0_2 a0_3 a0_4 a0_5 a0_6 a0_7 a0_8 a0_9 a0_10 a0_11 a0_12 a0_13 a0_14 a0_15).bind fun t0 => ((plan_look_g.f a0_0 a0_1 a0_2 a0_3 a0_4 a0_5 a0_6 a0_7 a0_8 a0_9 a0_10 a0_11 a0_12 a0_13 a0_14 a0_15).bind fun t1 => ((plan_look_e.f a0_0 a0_1 a0_2 a0_3 a0_4 a0_5 a0_6 a0_7 a0_8 a0_9 a0_10 a0_11 a0_12 a0_13 a0_14 a0_15).bind fun t2 => some (wrap64 (wrap64 (2 * wrap64 (t0 + t1)) + t2)))))
set_option maxRecDepth 100000 in
theorem plan_look_leastPi.calls (a0_0 : Int) (a0_1 : Int) (a0_2 : Int) (a0_3 : Int) (a0_4 : Int) (a0_5 : Int) (a0_6 : Int) (a0_7 : Int) (a0_8 : Int) (a0_9 : Int) (a0_10 : Int) (a0_11 : Int) (a0_12 : Int) (a0_13 : Int) (a0_14 : Int) (a0_15 : Int) (r : Int) (w : World) (h : plan_look_leastPi.f a0_0 a0_1 a0_2 a0_3 a0_4 a0_5 a0_6 a0_7 a0_8 a0_9 a0_10 a0_11 a0_12 a0_13 a0_14 a0_15 = some r) :
    Calls Try.prog 62 #[.agg #[.int .i64 a0_0, .int .i64 a0_1, .int .i64 a0_2, .int .i64 a0_3, .int .i64 a0_4, .int .i64 a0_5, .int .i64 a0_6, .int .i64 a0_7, .int .i64 a0_8, .int .i64 a0_9, .int .i64 a0_10, .int .i64 a0_11, .int .i64 a0_12, .int .i64 a0_13, .int .i64 a0_14, .int .i64 a0_15]] w fun e w' => e = .returned (.int .i64 r) ∧ Below w.heap.size w w' := by
  have ht : (walk Try.prog (ctOf t_plan_look_a) noL 100000 62 [.agg [.int .i64 (.s a0_0), .int .i64 (.s a0_1), .int .i64 (.s a0_2), .int .i64 (.s a0_3), .int .i64 (.s a0_4), .int .i64 (.s a0_5), .int .i64 (.s a0_6), .int .i64 (.s a0_7), .int .i64 (.s a0_8), .int .i64 (.s a0_9), .int .i64 (.s a0_10), .int .i64 (.s a0_11), .int .i64 (.s a0_12), .int .i64 (.s a0_13), .int .i64 (.s a0_14), .int .i64 (.s a0_15)]] [] 0).opt r_i64.dec = plan_look_leastPi.f a0_0 a0_1 a0_2 a0_3 a0_4 a0_5 a0_6 a0_7 a0_8 a0_9 a0_10 a0_11 a0_12 a0_13 a0_14 a0_15 := by kernel_rfl
  exact calls_of named mixed t_plan_look_a_ok.ct noL_ok ht h (by kernel_rfl) (by kernel_rfl) w fun _ _ _ _ _ hd hx => r_i64.ok hd hx
noncomputable def plan_look_leastPi.c : Entry := fun args _ _ => g_i64x16 args fun a0_0 a0_1 a0_2 a0_3 a0_4 a0_5 a0_6 a0_7 a0_8 a0_9 a0_10 a0_11 a0_12 a0_13 a0_14 a0_15 args => aN args (some { o := plan_look_leastPi.f a0_0 a0_1 a0_2 a0_3 a0_4 a0_5 a0_6 a0_7 a0_8 a0_9 a0_10 a0_11 a0_12 a0_13 a0_14 a0_15, enc := r_i64.enc })
theorem plan_look_leastPi.ok : EntryOK Try.prog 62 plan_look_leastPi.c := by
  intro args H hn c h _ r hr ρ w xs hx hrel
  unfold plan_look_leastPi.c at h
  obtain ⟨a0_0, a0_1, a0_2, a0_3, a0_4, a0_5, a0_6, a0_7, a0_8, a0_9, a0_10, a0_11, a0_12, a0_13, a0_14, a0_15, xs, args, rfl, hx, h⟩ := g_i64x16_ok h hx
  obtain ⟨rfl, h⟩ := aN_ok h hx
  cases h
  refine (plan_look_leastPi.calls a0_0 a0_1 a0_2 a0_3 a0_4 a0_5 a0_6 a0_7 a0_8 a0_9 a0_10 a0_11 a0_12 a0_13 a0_14 a0_15 r w hr).mono ?_
  rintro e w' ⟨rfl, hb⟩
  exact ⟨_, ρ, rfl, r_i64.enc_rel ρ r, ⟨rfl, hrel.below hb⟩, Eff.of_below hb⟩
noncomputable def t_plan_look_leastPi : List (Nat × Entry) := (62, plan_look_leastPi.c) :: t_plan_look_a
theorem t_plan_look_leastPi_ok : TabOK Try.prog t_plan_look_leastPi := TabOK.cons plan_look_leastPi.ok t_plan_look_a_ok
def plan_look_leastWindow.f (a0_0 : Int) (a0_1 : Int) (a0_2 : Int) (a0_3 : Int) (a0_4 : Int) (a0_5 : Int) (a0_6 : Int) (a0_7 : Int) (a0_8 : Int) (a0_9 : Int) (a0_10 : Int) (a0_11 : Int) (a0_12 : Int) (a0_13 : Int) (a0_14 : Int) (a0_15 : Int) : Option Int :=
  ((plan_look_e.f a0_0 a0_1 a0_2 a0_3 a0_4 a0_5 a0_6 a0_7 a0_8 a0_9 a0_10 a0_11 a0_12 a0_13 a0_14 a0_15).bind fun t0 => some (wrap64 (a0_9 + t0)))
set_option maxRecDepth 100000 in
theorem plan_look_leastWindow.calls (a0_0 : Int) (a0_1 : Int) (a0_2 : Int) (a0_3 : Int) (a0_4 : Int) (a0_5 : Int) (a0_6 : Int) (a0_7 : Int) (a0_8 : Int) (a0_9 : Int) (a0_10 : Int) (a0_11 : Int) (a0_12 : Int) (a0_13 : Int) (a0_14 : Int) (a0_15 : Int) (r : Int) (w : World) (h : plan_look_leastWindow.f a0_0 a0_1 a0_2 a0_3 a0_4 a0_5 a0_6 a0_7 a0_8 a0_9 a0_10 a0_11 a0_12 a0_13 a0_14 a0_15 = some r) :
    Calls Try.prog 63 #[.agg #[.int .i64 a0_0, .int .i64 a0_1, .int .i64 a0_2, .int .i64 a0_3, .int .i64 a0_4, .int .i64 a0_5, .int .i64 a0_6, .int .i64 a0_7, .int .i64 a0_8, .int .i64 a0_9, .int .i64 a0_10, .int .i64 a0_11, .int .i64 a0_12, .int .i64 a0_13, .int .i64 a0_14, .int .i64 a0_15]] w fun e w' => e = .returned (.int .i64 r) ∧ Below w.heap.size w w' := by
  have ht : (walk Try.prog (ctOf t_plan_look_leastPi) noL 100000 63 [.agg [.int .i64 (.s a0_0), .int .i64 (.s a0_1), .int .i64 (.s a0_2), .int .i64 (.s a0_3), .int .i64 (.s a0_4), .int .i64 (.s a0_5), .int .i64 (.s a0_6), .int .i64 (.s a0_7), .int .i64 (.s a0_8), .int .i64 (.s a0_9), .int .i64 (.s a0_10), .int .i64 (.s a0_11), .int .i64 (.s a0_12), .int .i64 (.s a0_13), .int .i64 (.s a0_14), .int .i64 (.s a0_15)]] [] 0).opt r_i64.dec = plan_look_leastWindow.f a0_0 a0_1 a0_2 a0_3 a0_4 a0_5 a0_6 a0_7 a0_8 a0_9 a0_10 a0_11 a0_12 a0_13 a0_14 a0_15 := by kernel_rfl
  exact calls_of named mixed t_plan_look_leastPi_ok.ct noL_ok ht h (by kernel_rfl) (by kernel_rfl) w fun _ _ _ _ _ hd hx => r_i64.ok hd hx
noncomputable def plan_look_leastWindow.c : Entry := fun args _ _ => g_i64x16 args fun a0_0 a0_1 a0_2 a0_3 a0_4 a0_5 a0_6 a0_7 a0_8 a0_9 a0_10 a0_11 a0_12 a0_13 a0_14 a0_15 args => aN args (some { o := plan_look_leastWindow.f a0_0 a0_1 a0_2 a0_3 a0_4 a0_5 a0_6 a0_7 a0_8 a0_9 a0_10 a0_11 a0_12 a0_13 a0_14 a0_15, enc := r_i64.enc })
theorem plan_look_leastWindow.ok : EntryOK Try.prog 63 plan_look_leastWindow.c := by
  intro args H hn c h _ r hr ρ w xs hx hrel
  unfold plan_look_leastWindow.c at h
  obtain ⟨a0_0, a0_1, a0_2, a0_3, a0_4, a0_5, a0_6, a0_7, a0_8, a0_9, a0_10, a0_11, a0_12, a0_13, a0_14, a0_15, xs, args, rfl, hx, h⟩ := g_i64x16_ok h hx
  obtain ⟨rfl, h⟩ := aN_ok h hx
  cases h
  refine (plan_look_leastWindow.calls a0_0 a0_1 a0_2 a0_3 a0_4 a0_5 a0_6 a0_7 a0_8 a0_9 a0_10 a0_11 a0_12 a0_13 a0_14 a0_15 r w hr).mono ?_
  rintro e w' ⟨rfl, hb⟩
  exact ⟨_, ρ, rfl, r_i64.enc_rel ρ r, ⟨rfl, hrel.below hb⟩, Eff.of_below hb⟩
noncomputable def t_plan_look_leastWindow : List (Nat × Entry) := (63, plan_look_leastWindow.c) :: t_plan_look_leastPi
theorem t_plan_look_leastWindow_ok : TabOK Try.prog t_plan_look_leastWindow := TabOK.cons plan_look_leastWindow.ok t_plan_look_leastPi_ok
def plan_look_leastCap.f (a0_0 : Int) (a0_1 : Int) (a0_2 : Int) (a0_3 : Int) (a0_4 : Int) (a0_5 : Int) (a0_6 : Int) (a0_7 : Int) (a0_8 : Int) (a0_9 : Int) (a0_10 : Int) (a0_11 : Int) (a0_12 : Int) (a0_13 : Int) (a0_14 : Int) (a0_15 : Int) : Option Int :=
  ((plan_look_a.f a0_0 a0_1 a0_2 a0_3 a0_4 a0_5 a0_6 a0_7 a0_8 a0_9 a0_10 a0_11 a0_12 a0_13 a0_14 a0_15).bind fun t0 => ((plan_look_g.f a0_0 a0_1 a0_2 a0_3 a0_4 a0_5 a0_6 a0_7 a0_8 a0_9 a0_10 a0_11 a0_12 a0_13 a0_14 a0_15).bind fun t1 => ((plan_look_e.f a0_0 a0_1 a0_2 a0_3 a0_4 a0_5 a0_6 a0_7 a0_8 a0_9 a0_10 a0_11 a0_12 a0_13 a0_14 a0_15).bind fun t2 => some (wrap64 (wrap64 (t0 + wrap64 (2 * t1)) + wrap64 (2 * t2))))))
set_option maxRecDepth 100000 in
theorem plan_look_leastCap.calls (a0_0 : Int) (a0_1 : Int) (a0_2 : Int) (a0_3 : Int) (a0_4 : Int) (a0_5 : Int) (a0_6 : Int) (a0_7 : Int) (a0_8 : Int) (a0_9 : Int) (a0_10 : Int) (a0_11 : Int) (a0_12 : Int) (a0_13 : Int) (a0_14 : Int) (a0_15 : Int) (r : Int) (w : World) (h : plan_look_leastCap.f a0_0 a0_1 a0_2 a0_3 a0_4 a0_5 a0_6 a0_7 a0_8 a0_9 a0_10 a0_11 a0_12 a0_13 a0_14 a0_15 = some r) :
    Calls Try.prog 64 #[.agg #[.int .i64 a0_0, .int .i64 a0_1, .int .i64 a0_2, .int .i64 a0_3, .int .i64 a0_4, .int .i64 a0_5, .int .i64 a0_6, .int .i64 a0_7, .int .i64 a0_8, .int .i64 a0_9, .int .i64 a0_10, .int .i64 a0_11, .int .i64 a0_12, .int .i64 a0_13, .int .i64 a0_14, .int .i64 a0_15]] w fun e w' => e = .returned (.int .i64 r) ∧ Below w.heap.size w w' := by
  have ht : (walk Try.prog (ctOf t_plan_look_leastWindow) noL 100000 64 [.agg [.int .i64 (.s a0_0), .int .i64 (.s a0_1), .int .i64 (.s a0_2), .int .i64 (.s a0_3), .int .i64 (.s a0_4), .int .i64 (.s a0_5), .int .i64 (.s a0_6), .int .i64 (.s a0_7), .int .i64 (.s a0_8), .int .i64 (.s a0_9), .int .i64 (.s a0_10), .int .i64 (.s a0_11), .int .i64 (.s a0_12), .int .i64 (.s a0_13), .int .i64 (.s a0_14), .int .i64 (.s a0_15)]] [] 0).opt r_i64.dec = plan_look_leastCap.f a0_0 a0_1 a0_2 a0_3 a0_4 a0_5 a0_6 a0_7 a0_8 a0_9 a0_10 a0_11 a0_12 a0_13 a0_14 a0_15 := by kernel_rfl
  exact calls_of named mixed t_plan_look_leastWindow_ok.ct noL_ok ht h (by kernel_rfl) (by kernel_rfl) w fun _ _ _ _ _ hd hx => r_i64.ok hd hx
noncomputable def plan_look_leastCap.c : Entry := fun args _ _ => g_i64x16 args fun a0_0 a0_1 a0_2 a0_3 a0_4 a0_5 a0_6 a0_7 a0_8 a0_9 a0_10 a0_11 a0_12 a0_13 a0_14 a0_15 args => aN args (some { o := plan_look_leastCap.f a0_0 a0_1 a0_2 a0_3 a0_4 a0_5 a0_6 a0_7 a0_8 a0_9 a0_10 a0_11 a0_12 a0_13 a0_14 a0_15, enc := r_i64.enc })
theorem plan_look_leastCap.ok : EntryOK Try.prog 64 plan_look_leastCap.c := by
  intro args H hn c h _ r hr ρ w xs hx hrel
  unfold plan_look_leastCap.c at h
  obtain ⟨a0_0, a0_1, a0_2, a0_3, a0_4, a0_5, a0_6, a0_7, a0_8, a0_9, a0_10, a0_11, a0_12, a0_13, a0_14, a0_15, xs, args, rfl, hx, h⟩ := g_i64x16_ok h hx
  obtain ⟨rfl, h⟩ := aN_ok h hx
  cases h
  refine (plan_look_leastCap.calls a0_0 a0_1 a0_2 a0_3 a0_4 a0_5 a0_6 a0_7 a0_8 a0_9 a0_10 a0_11 a0_12 a0_13 a0_14 a0_15 r w hr).mono ?_
  rintro e w' ⟨rfl, hb⟩
  exact ⟨_, ρ, rfl, r_i64.enc_rel ρ r, ⟨rfl, hrel.below hb⟩, Eff.of_below hb⟩
noncomputable def t_plan_look_leastCap : List (Nat × Entry) := (64, plan_look_leastCap.c) :: t_plan_look_leastWindow
theorem t_plan_look_leastCap_ok : TabOK Try.prog t_plan_look_leastCap := TabOK.cons plan_look_leastCap.ok t_plan_look_leastWindow_ok
def plan_look_leastOff.f (a0_0 : Int) (a0_1 : Int) (a0_2 : Int) (a0_3 : Int) (a0_4 : Int) (a0_5 : Int) (a0_6 : Int) (a0_7 : Int) (a0_8 : Int) (a0_9 : Int) (a0_10 : Int) (a0_11 : Int) (a0_12 : Int) (a0_13 : Int) (a0_14 : Int) (a0_15 : Int) : Option Int :=
  some (wrap64 (wrap64 (a0_4 + a0_10) + a0_9))
set_option maxRecDepth 100000 in
theorem plan_look_leastOff.calls (a0_0 : Int) (a0_1 : Int) (a0_2 : Int) (a0_3 : Int) (a0_4 : Int) (a0_5 : Int) (a0_6 : Int) (a0_7 : Int) (a0_8 : Int) (a0_9 : Int) (a0_10 : Int) (a0_11 : Int) (a0_12 : Int) (a0_13 : Int) (a0_14 : Int) (a0_15 : Int) (r : Int) (w : World) (h : plan_look_leastOff.f a0_0 a0_1 a0_2 a0_3 a0_4 a0_5 a0_6 a0_7 a0_8 a0_9 a0_10 a0_11 a0_12 a0_13 a0_14 a0_15 = some r) :
    Calls Try.prog 65 #[.agg #[.int .i64 a0_0, .int .i64 a0_1, .int .i64 a0_2, .int .i64 a0_3, .int .i64 a0_4, .int .i64 a0_5, .int .i64 a0_6, .int .i64 a0_7, .int .i64 a0_8, .int .i64 a0_9, .int .i64 a0_10, .int .i64 a0_11, .int .i64 a0_12, .int .i64 a0_13, .int .i64 a0_14, .int .i64 a0_15]] w fun e w' => e = .returned (.int .i64 r) ∧ Below w.heap.size w w' := by
  have ht : (walk Try.prog (ctOf t_plan_look_leastCap) noL 100000 65 [.agg [.int .i64 (.s a0_0), .int .i64 (.s a0_1), .int .i64 (.s a0_2), .int .i64 (.s a0_3), .int .i64 (.s a0_4), .int .i64 (.s a0_5), .int .i64 (.s a0_6), .int .i64 (.s a0_7), .int .i64 (.s a0_8), .int .i64 (.s a0_9), .int .i64 (.s a0_10), .int .i64 (.s a0_11), .int .i64 (.s a0_12), .int .i64 (.s a0_13), .int .i64 (.s a0_14), .int .i64 (.s a0_15)]] [] 0).opt r_i64.dec = plan_look_leastOff.f a0_0 a0_1 a0_2 a0_3 a0_4 a0_5 a0_6 a0_7 a0_8 a0_9 a0_10 a0_11 a0_12 a0_13 a0_14 a0_15 := by kernel_rfl
  exact calls_of named mixed t_plan_look_leastCap_ok.ct noL_ok ht h (by kernel_rfl) (by kernel_rfl) w fun _ _ _ _ _ hd hx => r_i64.ok hd hx
noncomputable def plan_look_leastOff.c : Entry := fun args _ _ => g_i64x16 args fun a0_0 a0_1 a0_2 a0_3 a0_4 a0_5 a0_6 a0_7 a0_8 a0_9 a0_10 a0_11 a0_12 a0_13 a0_14 a0_15 args => aN args (some { o := plan_look_leastOff.f a0_0 a0_1 a0_2 a0_3 a0_4 a0_5 a0_6 a0_7 a0_8 a0_9 a0_10 a0_11 a0_12 a0_13 a0_14 a0_15, enc := r_i64.enc })
theorem plan_look_leastOff.ok : EntryOK Try.prog 65 plan_look_leastOff.c := by
  intro args H hn c h _ r hr ρ w xs hx hrel
  unfold plan_look_leastOff.c at h
  obtain ⟨a0_0, a0_1, a0_2, a0_3, a0_4, a0_5, a0_6, a0_7, a0_8, a0_9, a0_10, a0_11, a0_12, a0_13, a0_14, a0_15, xs, args, rfl, hx, h⟩ := g_i64x16_ok h hx
  obtain ⟨rfl, h⟩ := aN_ok h hx
  cases h
  refine (plan_look_leastOff.calls a0_0 a0_1 a0_2 a0_3 a0_4 a0_5 a0_6 a0_7 a0_8 a0_9 a0_10 a0_11 a0_12 a0_13 a0_14 a0_15 r w hr).mono ?_
  rintro e w' ⟨rfl, hb⟩
  exact ⟨_, ρ, rfl, r_i64.enc_rel ρ r, ⟨rfl, hrel.below hb⟩, Eff.of_below hb⟩
noncomputable def t_plan_look_leastOff : List (Nat × Entry) := (65, plan_look_leastOff.c) :: t_plan_look_leastCap
theorem t_plan_look_leastOff_ok : TabOK Try.prog t_plan_look_leastOff := TabOK.cons plan_look_leastOff.ok t_plan_look_leastCap_ok
def plan_look_leastSlot.f (a0_0 : Int) (a0_1 : Int) (a0_2 : Int) (a0_3 : Int) (a0_4 : Int) (a0_5 : Int) (a0_6 : Int) (a0_7 : Int) (a0_8 : Int) (a0_9 : Int) (a0_10 : Int) (a0_11 : Int) (a0_12 : Int) (a0_13 : Int) (a0_14 : Int) (a0_15 : Int) : Option Int :=
  some (wrap64 (wrap64 (wrap64 (wrap64 (wrap64 (a0_3 + a0_4) + wrap64 (2 * wrap64 (a0_7 + a0_5))) + a0_10) + a0_9) + 8))
set_option maxRecDepth 100000 in
theorem plan_look_leastSlot.calls (a0_0 : Int) (a0_1 : Int) (a0_2 : Int) (a0_3 : Int) (a0_4 : Int) (a0_5 : Int) (a0_6 : Int) (a0_7 : Int) (a0_8 : Int) (a0_9 : Int) (a0_10 : Int) (a0_11 : Int) (a0_12 : Int) (a0_13 : Int) (a0_14 : Int) (a0_15 : Int) (r : Int) (w : World) (h : plan_look_leastSlot.f a0_0 a0_1 a0_2 a0_3 a0_4 a0_5 a0_6 a0_7 a0_8 a0_9 a0_10 a0_11 a0_12 a0_13 a0_14 a0_15 = some r) :
    Calls Try.prog 51 #[.agg #[.int .i64 a0_0, .int .i64 a0_1, .int .i64 a0_2, .int .i64 a0_3, .int .i64 a0_4, .int .i64 a0_5, .int .i64 a0_6, .int .i64 a0_7, .int .i64 a0_8, .int .i64 a0_9, .int .i64 a0_10, .int .i64 a0_11, .int .i64 a0_12, .int .i64 a0_13, .int .i64 a0_14, .int .i64 a0_15]] w fun e w' => e = .returned (.int .i64 r) ∧ Below w.heap.size w w' := by
  have ht : (walk Try.prog (ctOf t_plan_look_leastOff) noL 100000 51 [.agg [.int .i64 (.s a0_0), .int .i64 (.s a0_1), .int .i64 (.s a0_2), .int .i64 (.s a0_3), .int .i64 (.s a0_4), .int .i64 (.s a0_5), .int .i64 (.s a0_6), .int .i64 (.s a0_7), .int .i64 (.s a0_8), .int .i64 (.s a0_9), .int .i64 (.s a0_10), .int .i64 (.s a0_11), .int .i64 (.s a0_12), .int .i64 (.s a0_13), .int .i64 (.s a0_14), .int .i64 (.s a0_15)]] [] 0).opt r_i64.dec = plan_look_leastSlot.f a0_0 a0_1 a0_2 a0_3 a0_4 a0_5 a0_6 a0_7 a0_8 a0_9 a0_10 a0_11 a0_12 a0_13 a0_14 a0_15 := by kernel_rfl
  exact calls_of named mixed t_plan_look_leastOff_ok.ct noL_ok ht h (by kernel_rfl) (by kernel_rfl) w fun _ _ _ _ _ hd hx => r_i64.ok hd hx
noncomputable def plan_look_leastSlot.c : Entry := fun args _ _ => g_i64x16 args fun a0_0 a0_1 a0_2 a0_3 a0_4 a0_5 a0_6 a0_7 a0_8 a0_9 a0_10 a0_11 a0_12 a0_13 a0_14 a0_15 args => aN args (some { o := plan_look_leastSlot.f a0_0 a0_1 a0_2 a0_3 a0_4 a0_5 a0_6 a0_7 a0_8 a0_9 a0_10 a0_11 a0_12 a0_13 a0_14 a0_15, enc := r_i64.enc })
theorem plan_look_leastSlot.ok : EntryOK Try.prog 51 plan_look_leastSlot.c := by
  intro args H hn c h _ r hr ρ w xs hx hrel
  unfold plan_look_leastSlot.c at h
  obtain ⟨a0_0, a0_1, a0_2, a0_3, a0_4, a0_5, a0_6, a0_7, a0_8, a0_9, a0_10, a0_11, a0_12, a0_13, a0_14, a0_15, xs, args, rfl, hx, h⟩ := g_i64x16_ok h hx
  obtain ⟨rfl, h⟩ := aN_ok h hx
  cases h
  refine (plan_look_leastSlot.calls a0_0 a0_1 a0_2 a0_3 a0_4 a0_5 a0_6 a0_7 a0_8 a0_9 a0_10 a0_11 a0_12 a0_13 a0_14 a0_15 r w hr).mono ?_
  rintro e w' ⟨rfl, hb⟩
  exact ⟨_, ρ, rfl, r_i64.enc_rel ρ r, ⟨rfl, hrel.below hb⟩, Eff.of_below hb⟩
noncomputable def t_plan_look_leastSlot : List (Nat × Entry) := (51, plan_look_leastSlot.c) :: t_plan_look_leastOff
theorem t_plan_look_leastSlot_ok : TabOK Try.prog t_plan_look_leastSlot := TabOK.cons plan_look_leastSlot.ok t_plan_look_leastOff_ok
def plan_look_leastDelta.f (a0_0 : Int) (a0_1 : Int) (a0_2 : Int) (a0_3 : Int) (a0_4 : Int) (a0_5 : Int) (a0_6 : Int) (a0_7 : Int) (a0_8 : Int) (a0_9 : Int) (a0_10 : Int) (a0_11 : Int) (a0_12 : Int) (a0_13 : Int) (a0_14 : Int) (a0_15 : Int) : Option Int :=
  (if a0_13 = 0 then none else ((plan_look_round.f a0_0 a0_1 a0_2 a0_3 a0_4 a0_5 a0_6 a0_7 a0_8 a0_9 a0_10 a0_11 a0_12 a0_13 a0_14 a0_15).bind fun t0 => some (wrap64 (wrap64 (wrap64 (wrap64 ((wrap64 (wrap64 (a0_12 + a0_13) - 1)).tdiv a0_13) + 3) * t0) + wrap64 (2 * a0_9)))))
set_option maxRecDepth 100000 in
theorem plan_look_leastDelta.calls (a0_0 : Int) (a0_1 : Int) (a0_2 : Int) (a0_3 : Int) (a0_4 : Int) (a0_5 : Int) (a0_6 : Int) (a0_7 : Int) (a0_8 : Int) (a0_9 : Int) (a0_10 : Int) (a0_11 : Int) (a0_12 : Int) (a0_13 : Int) (a0_14 : Int) (a0_15 : Int) (r : Int) (w : World) (h : plan_look_leastDelta.f a0_0 a0_1 a0_2 a0_3 a0_4 a0_5 a0_6 a0_7 a0_8 a0_9 a0_10 a0_11 a0_12 a0_13 a0_14 a0_15 = some r) :
    Calls Try.prog 66 #[.agg #[.int .i64 a0_0, .int .i64 a0_1, .int .i64 a0_2, .int .i64 a0_3, .int .i64 a0_4, .int .i64 a0_5, .int .i64 a0_6, .int .i64 a0_7, .int .i64 a0_8, .int .i64 a0_9, .int .i64 a0_10, .int .i64 a0_11, .int .i64 a0_12, .int .i64 a0_13, .int .i64 a0_14, .int .i64 a0_15]] w fun e w' => e = .returned (.int .i64 r) ∧ Below w.heap.size w w' := by
  have ht : (walk Try.prog (ctOf t_plan_look_leastSlot) noL 100000 66 [.agg [.int .i64 (.s a0_0), .int .i64 (.s a0_1), .int .i64 (.s a0_2), .int .i64 (.s a0_3), .int .i64 (.s a0_4), .int .i64 (.s a0_5), .int .i64 (.s a0_6), .int .i64 (.s a0_7), .int .i64 (.s a0_8), .int .i64 (.s a0_9), .int .i64 (.s a0_10), .int .i64 (.s a0_11), .int .i64 (.s a0_12), .int .i64 (.s a0_13), .int .i64 (.s a0_14), .int .i64 (.s a0_15)]] [] 0).opt r_i64.dec = plan_look_leastDelta.f a0_0 a0_1 a0_2 a0_3 a0_4 a0_5 a0_6 a0_7 a0_8 a0_9 a0_10 a0_11 a0_12 a0_13 a0_14 a0_15 := by kernel_rfl
  exact calls_of named mixed t_plan_look_leastSlot_ok.ct noL_ok ht h (by kernel_rfl) (by kernel_rfl) w fun _ _ _ _ _ hd hx => r_i64.ok hd hx
noncomputable def plan_look_leastDelta.c : Entry := fun args _ _ => g_i64x16 args fun a0_0 a0_1 a0_2 a0_3 a0_4 a0_5 a0_6 a0_7 a0_8 a0_9 a0_10 a0_11 a0_12 a0_13 a0_14 a0_15 args => aN args (some { o := plan_look_leastDelta.f a0_0 a0_1 a0_2 a0_3 a0_4 a0_5 a0_6 a0_7 a0_8 a0_9 a0_10 a0_11 a0_12 a0_13 a0_14 a0_15, enc := r_i64.enc })
theorem plan_look_leastDelta.ok : EntryOK Try.prog 66 plan_look_leastDelta.c := by
  intro args H hn c h _ r hr ρ w xs hx hrel
  unfold plan_look_leastDelta.c at h
  obtain ⟨a0_0, a0_1, a0_2, a0_3, a0_4, a0_5, a0_6, a0_7, a0_8, a0_9, a0_10, a0_11, a0_12, a0_13, a0_14, a0_15, xs, args, rfl, hx, h⟩ := g_i64x16_ok h hx
  obtain ⟨rfl, h⟩ := aN_ok h hx
  cases h
  refine (plan_look_leastDelta.calls a0_0 a0_1 a0_2 a0_3 a0_4 a0_5 a0_6 a0_7 a0_8 a0_9 a0_10 a0_11 a0_12 a0_13 a0_14 a0_15 r w hr).mono ?_
  rintro e w' ⟨rfl, hb⟩
  exact ⟨_, ρ, rfl, r_i64.enc_rel ρ r, ⟨rfl, hrel.below hb⟩, Eff.of_below hb⟩
noncomputable def t_plan_look_leastDelta : List (Nat × Entry) := (66, plan_look_leastDelta.c) :: t_plan_look_leastSlot
theorem t_plan_look_leastDelta_ok : TabOK Try.prog t_plan_look_leastDelta := TabOK.cons plan_look_leastDelta.ok t_plan_look_leastSlot_ok
def plan_look_nodes.f (a0_0 : Int) (a0_1 : Int) (a0_2 : Int) (a0_3 : Int) (a0_4 : Int) (a0_5 : Int) (a0_6 : Int) (a0_7 : Int) (a0_8 : Int) (a0_9 : Int) (a0_10 : Int) (a0_11 : Int) (a0_12 : Int) (a0_13 : Int) (a0_14 : Int) (a0_15 : Int) : Option Bool :=
  ((plan_in.f a0_0 4 16).bind fun t0 => (if t0 = true then ((plan_in.f a0_1 0 (wrap64 ((wrap64 (a0_0 - 2)).tdiv 2))).bind fun t1 => some t1) else some false))
set_option maxRecDepth 100000 in
theorem plan_look_nodes.calls (a0_0 : Int) (a0_1 : Int) (a0_2 : Int) (a0_3 : Int) (a0_4 : Int) (a0_5 : Int) (a0_6 : Int) (a0_7 : Int) (a0_8 : Int) (a0_9 : Int) (a0_10 : Int) (a0_11 : Int) (a0_12 : Int) (a0_13 : Int) (a0_14 : Int) (a0_15 : Int) (r : Bool) (w : World) (h : plan_look_nodes.f a0_0 a0_1 a0_2 a0_3 a0_4 a0_5 a0_6 a0_7 a0_8 a0_9 a0_10 a0_11 a0_12 a0_13 a0_14 a0_15 = some r) :
    Calls Try.prog 58 #[.agg #[.int .i64 a0_0, .int .i64 a0_1, .int .i64 a0_2, .int .i64 a0_3, .int .i64 a0_4, .int .i64 a0_5, .int .i64 a0_6, .int .i64 a0_7, .int .i64 a0_8, .int .i64 a0_9, .int .i64 a0_10, .int .i64 a0_11, .int .i64 a0_12, .int .i64 a0_13, .int .i64 a0_14, .int .i64 a0_15]] w fun e w' => e = .returned (.bool r) ∧ Below w.heap.size w w' := by
  have ht : (walk Try.prog (ctOf t_plan_look_leastDelta) noL 100000 58 [.agg [.int .i64 (.s a0_0), .int .i64 (.s a0_1), .int .i64 (.s a0_2), .int .i64 (.s a0_3), .int .i64 (.s a0_4), .int .i64 (.s a0_5), .int .i64 (.s a0_6), .int .i64 (.s a0_7), .int .i64 (.s a0_8), .int .i64 (.s a0_9), .int .i64 (.s a0_10), .int .i64 (.s a0_11), .int .i64 (.s a0_12), .int .i64 (.s a0_13), .int .i64 (.s a0_14), .int .i64 (.s a0_15)]] [] 0).opt r_bool.dec = plan_look_nodes.f a0_0 a0_1 a0_2 a0_3 a0_4 a0_5 a0_6 a0_7 a0_8 a0_9 a0_10 a0_11 a0_12 a0_13 a0_14 a0_15 := by kernel_rfl
  exact calls_of named mixed t_plan_look_leastDelta_ok.ct noL_ok ht h (by kernel_rfl) (by kernel_rfl) w fun _ _ _ _ _ hd hx => r_bool.ok hd hx
noncomputable def plan_look_nodes.c : Entry := fun args _ _ => g_i64x16 args fun a0_0 a0_1 a0_2 a0_3 a0_4 a0_5 a0_6 a0_7 a0_8 a0_9 a0_10 a0_11 a0_12 a0_13 a0_14 a0_15 args => aN args (some { o := plan_look_nodes.f a0_0 a0_1 a0_2 a0_3 a0_4 a0_5 a0_6 a0_7 a0_8 a0_9 a0_10 a0_11 a0_12 a0_13 a0_14 a0_15, enc := r_bool.enc })
theorem plan_look_nodes.ok : EntryOK Try.prog 58 plan_look_nodes.c := by
  intro args H hn c h _ r hr ρ w xs hx hrel
  unfold plan_look_nodes.c at h
  obtain ⟨a0_0, a0_1, a0_2, a0_3, a0_4, a0_5, a0_6, a0_7, a0_8, a0_9, a0_10, a0_11, a0_12, a0_13, a0_14, a0_15, xs, args, rfl, hx, h⟩ := g_i64x16_ok h hx
  obtain ⟨rfl, h⟩ := aN_ok h hx
  cases h
  refine (plan_look_nodes.calls a0_0 a0_1 a0_2 a0_3 a0_4 a0_5 a0_6 a0_7 a0_8 a0_9 a0_10 a0_11 a0_12 a0_13 a0_14 a0_15 r w hr).mono ?_
  rintro e w' ⟨rfl, hb⟩
  exact ⟨_, ρ, rfl, r_bool.enc_rel ρ r, ⟨rfl, hrel.below hb⟩, Eff.of_below hb⟩
noncomputable def t_plan_look_nodes : List (Nat × Entry) := (58, plan_look_nodes.c) :: t_plan_look_leastDelta
theorem t_plan_look_nodes_ok : TabOK Try.prog t_plan_look_nodes := TabOK.cons plan_look_nodes.ok t_plan_look_leastDelta_ok
def plan_look_air.f (a0_0 : Int) (a0_1 : Int) (a0_2 : Int) (a0_3 : Int) (a0_4 : Int) (a0_5 : Int) (a0_6 : Int) (a0_7 : Int) (a0_8 : Int) (a0_9 : Int) (a0_10 : Int) (a0_11 : Int) (a0_12 : Int) (a0_13 : Int) (a0_14 : Int) (a0_15 : Int) : Option Bool :=
  ((plan_in.f a0_5 1 1048576).bind fun t0 => (if t0 = true then (if a0_6 ≥ 0 then ((plan_in.f a0_7 a0_6 1048576).bind fun t1 => some t1) else some false) else some false))
set_option maxRecDepth 100000 in
theorem plan_look_air.calls (a0_0 : Int) (a0_1 : Int) (a0_2 : Int) (a0_3 : Int) (a0_4 : Int) (a0_5 : Int) (a0_6 : Int) (a0_7 : Int) (a0_8 : Int) (a0_9 : Int) (a0_10 : Int) (a0_11 : Int) (a0_12 : Int) (a0_13 : Int) (a0_14 : Int) (a0_15 : Int) (r : Bool) (w : World) (h : plan_look_air.f a0_0 a0_1 a0_2 a0_3 a0_4 a0_5 a0_6 a0_7 a0_8 a0_9 a0_10 a0_11 a0_12 a0_13 a0_14 a0_15 = some r) :
    Calls Try.prog 59 #[.agg #[.int .i64 a0_0, .int .i64 a0_1, .int .i64 a0_2, .int .i64 a0_3, .int .i64 a0_4, .int .i64 a0_5, .int .i64 a0_6, .int .i64 a0_7, .int .i64 a0_8, .int .i64 a0_9, .int .i64 a0_10, .int .i64 a0_11, .int .i64 a0_12, .int .i64 a0_13, .int .i64 a0_14, .int .i64 a0_15]] w fun e w' => e = .returned (.bool r) ∧ Below w.heap.size w w' := by
  have ht : (walk Try.prog (ctOf t_plan_look_nodes) noL 100000 59 [.agg [.int .i64 (.s a0_0), .int .i64 (.s a0_1), .int .i64 (.s a0_2), .int .i64 (.s a0_3), .int .i64 (.s a0_4), .int .i64 (.s a0_5), .int .i64 (.s a0_6), .int .i64 (.s a0_7), .int .i64 (.s a0_8), .int .i64 (.s a0_9), .int .i64 (.s a0_10), .int .i64 (.s a0_11), .int .i64 (.s a0_12), .int .i64 (.s a0_13), .int .i64 (.s a0_14), .int .i64 (.s a0_15)]] [] 0).opt r_bool.dec = plan_look_air.f a0_0 a0_1 a0_2 a0_3 a0_4 a0_5 a0_6 a0_7 a0_8 a0_9 a0_10 a0_11 a0_12 a0_13 a0_14 a0_15 := by kernel_rfl
  exact calls_of named mixed t_plan_look_nodes_ok.ct noL_ok ht h (by kernel_rfl) (by kernel_rfl) w fun _ _ _ _ _ hd hx => r_bool.ok hd hx
noncomputable def plan_look_air.c : Entry := fun args _ _ => g_i64x16 args fun a0_0 a0_1 a0_2 a0_3 a0_4 a0_5 a0_6 a0_7 a0_8 a0_9 a0_10 a0_11 a0_12 a0_13 a0_14 a0_15 args => aN args (some { o := plan_look_air.f a0_0 a0_1 a0_2 a0_3 a0_4 a0_5 a0_6 a0_7 a0_8 a0_9 a0_10 a0_11 a0_12 a0_13 a0_14 a0_15, enc := r_bool.enc })
theorem plan_look_air.ok : EntryOK Try.prog 59 plan_look_air.c := by
  intro args H hn c h _ r hr ρ w xs hx hrel
  unfold plan_look_air.c at h
  obtain ⟨a0_0, a0_1, a0_2, a0_3, a0_4, a0_5, a0_6, a0_7, a0_8, a0_9, a0_10, a0_11, a0_12, a0_13, a0_14, a0_15, xs, args, rfl, hx, h⟩ := g_i64x16_ok h hx
  obtain ⟨rfl, h⟩ := aN_ok h hx
  cases h
  refine (plan_look_air.calls a0_0 a0_1 a0_2 a0_3 a0_4 a0_5 a0_6 a0_7 a0_8 a0_9 a0_10 a0_11 a0_12 a0_13 a0_14 a0_15 r w hr).mono ?_
  rintro e w' ⟨rfl, hb⟩
  exact ⟨_, ρ, rfl, r_bool.enc_rel ρ r, ⟨rfl, hrel.below hb⟩, Eff.of_below hb⟩
noncomputable def t_plan_look_air : List (Nat × Entry) := (59, plan_look_air.c) :: t_plan_look_nodes
theorem t_plan_look_air_ok : TabOK Try.prog t_plan_look_air := TabOK.cons plan_look_air.ok t_plan_look_nodes_ok
def plan_look_slot.f (a0_0 : Int) (a0_1 : Int) (a0_2 : Int) (a0_3 : Int) (a0_4 : Int) (a0_5 : Int) (a0_6 : Int) (a0_7 : Int) (a0_8 : Int) (a0_9 : Int) (a0_10 : Int) (a0_11 : Int) (a0_12 : Int) (a0_13 : Int) (a0_14 : Int) (a0_15 : Int) : Option Bool :=
  ((plan_in.f a0_2 1 1048576).bind fun t0 => (if t0 = true then ((plan_in.f a0_8 4 1048576).bind fun t1 => some t1) else some false))
set_option maxRecDepth 100000 in
theorem plan_look_slot.calls (a0_0 : Int) (a0_1 : Int) (a0_2 : Int) (a0_3 : Int) (a0_4 : Int) (a0_5 : Int) (a0_6 : Int) (a0_7 : Int) (a0_8 : Int) (a0_9 : Int) (a0_10 : Int) (a0_11 : Int) (a0_12 : Int) (a0_13 : Int) (a0_14 : Int) (a0_15 : Int) (r : Bool) (w : World) (h : plan_look_slot.f a0_0 a0_1 a0_2 a0_3 a0_4 a0_5 a0_6 a0_7 a0_8 a0_9 a0_10 a0_11 a0_12 a0_13 a0_14 a0_15 = some r) :
    Calls Try.prog 60 #[.agg #[.int .i64 a0_0, .int .i64 a0_1, .int .i64 a0_2, .int .i64 a0_3, .int .i64 a0_4, .int .i64 a0_5, .int .i64 a0_6, .int .i64 a0_7, .int .i64 a0_8, .int .i64 a0_9, .int .i64 a0_10, .int .i64 a0_11, .int .i64 a0_12, .int .i64 a0_13, .int .i64 a0_14, .int .i64 a0_15]] w fun e w' => e = .returned (.bool r) ∧ Below w.heap.size w w' := by
  have ht : (walk Try.prog (ctOf t_plan_look_air) noL 100000 60 [.agg [.int .i64 (.s a0_0), .int .i64 (.s a0_1), .int .i64 (.s a0_2), .int .i64 (.s a0_3), .int .i64 (.s a0_4), .int .i64 (.s a0_5), .int .i64 (.s a0_6), .int .i64 (.s a0_7), .int .i64 (.s a0_8), .int .i64 (.s a0_9), .int .i64 (.s a0_10), .int .i64 (.s a0_11), .int .i64 (.s a0_12), .int .i64 (.s a0_13), .int .i64 (.s a0_14), .int .i64 (.s a0_15)]] [] 0).opt r_bool.dec = plan_look_slot.f a0_0 a0_1 a0_2 a0_3 a0_4 a0_5 a0_6 a0_7 a0_8 a0_9 a0_10 a0_11 a0_12 a0_13 a0_14 a0_15 := by kernel_rfl
  exact calls_of named mixed t_plan_look_air_ok.ct noL_ok ht h (by kernel_rfl) (by kernel_rfl) w fun _ _ _ _ _ hd hx => r_bool.ok hd hx
noncomputable def plan_look_slot.c : Entry := fun args _ _ => g_i64x16 args fun a0_0 a0_1 a0_2 a0_3 a0_4 a0_5 a0_6 a0_7 a0_8 a0_9 a0_10 a0_11 a0_12 a0_13 a0_14 a0_15 args => aN args (some { o := plan_look_slot.f a0_0 a0_1 a0_2 a0_3 a0_4 a0_5 a0_6 a0_7 a0_8 a0_9 a0_10 a0_11 a0_12 a0_13 a0_14 a0_15, enc := r_bool.enc })
theorem plan_look_slot.ok : EntryOK Try.prog 60 plan_look_slot.c := by
  intro args H hn c h _ r hr ρ w xs hx hrel
  unfold plan_look_slot.c at h
  obtain ⟨a0_0, a0_1, a0_2, a0_3, a0_4, a0_5, a0_6, a0_7, a0_8, a0_9, a0_10, a0_11, a0_12, a0_13, a0_14, a0_15, xs, args, rfl, hx, h⟩ := g_i64x16_ok h hx
  obtain ⟨rfl, h⟩ := aN_ok h hx
  cases h
  refine (plan_look_slot.calls a0_0 a0_1 a0_2 a0_3 a0_4 a0_5 a0_6 a0_7 a0_8 a0_9 a0_10 a0_11 a0_12 a0_13 a0_14 a0_15 r w hr).mono ?_
  rintro e w' ⟨rfl, hb⟩
  exact ⟨_, ρ, rfl, r_bool.enc_rel ρ r, ⟨rfl, hrel.below hb⟩, Eff.of_below hb⟩
noncomputable def t_plan_look_slot : List (Nat × Entry) := (60, plan_look_slot.c) :: t_plan_look_air
theorem t_plan_look_slot_ok : TabOK Try.prog t_plan_look_slot := TabOK.cons plan_look_slot.ok t_plan_look_air_ok
def plan_look_pi.f (a0_0 : Int) (a0_1 : Int) (a0_2 : Int) (a0_3 : Int) (a0_4 : Int) (a0_5 : Int) (a0_6 : Int) (a0_7 : Int) (a0_8 : Int) (a0_9 : Int) (a0_10 : Int) (a0_11 : Int) (a0_12 : Int) (a0_13 : Int) (a0_14 : Int) (a0_15 : Int) : Option Bool :=
  ((plan_look_leastPi.f a0_0 a0_1 a0_2 a0_3 a0_4 a0_5 a0_6 a0_7 a0_8 a0_9 a0_10 a0_11 a0_12 a0_13 a0_14 a0_15).bind fun t0 => ((plan_in.f a0_9 t0 1048576).bind fun t1 => some t1))
set_option maxRecDepth 100000 in
theorem plan_look_pi.calls (a0_0 : Int) (a0_1 : Int) (a0_2 : Int) (a0_3 : Int) (a0_4 : Int) (a0_5 : Int) (a0_6 : Int) (a0_7 : Int) (a0_8 : Int) (a0_9 : Int) (a0_10 : Int) (a0_11 : Int) (a0_12 : Int) (a0_13 : Int) (a0_14 : Int) (a0_15 : Int) (r : Bool) (w : World) (h : plan_look_pi.f a0_0 a0_1 a0_2 a0_3 a0_4 a0_5 a0_6 a0_7 a0_8 a0_9 a0_10 a0_11 a0_12 a0_13 a0_14 a0_15 = some r) :
    Calls Try.prog 68 #[.agg #[.int .i64 a0_0, .int .i64 a0_1, .int .i64 a0_2, .int .i64 a0_3, .int .i64 a0_4, .int .i64 a0_5, .int .i64 a0_6, .int .i64 a0_7, .int .i64 a0_8, .int .i64 a0_9, .int .i64 a0_10, .int .i64 a0_11, .int .i64 a0_12, .int .i64 a0_13, .int .i64 a0_14, .int .i64 a0_15]] w fun e w' => e = .returned (.bool r) ∧ Below w.heap.size w w' := by
  have ht : (walk Try.prog (ctOf t_plan_look_slot) noL 100000 68 [.agg [.int .i64 (.s a0_0), .int .i64 (.s a0_1), .int .i64 (.s a0_2), .int .i64 (.s a0_3), .int .i64 (.s a0_4), .int .i64 (.s a0_5), .int .i64 (.s a0_6), .int .i64 (.s a0_7), .int .i64 (.s a0_8), .int .i64 (.s a0_9), .int .i64 (.s a0_10), .int .i64 (.s a0_11), .int .i64 (.s a0_12), .int .i64 (.s a0_13), .int .i64 (.s a0_14), .int .i64 (.s a0_15)]] [] 0).opt r_bool.dec = plan_look_pi.f a0_0 a0_1 a0_2 a0_3 a0_4 a0_5 a0_6 a0_7 a0_8 a0_9 a0_10 a0_11 a0_12 a0_13 a0_14 a0_15 := by kernel_rfl
  exact calls_of named mixed t_plan_look_slot_ok.ct noL_ok ht h (by kernel_rfl) (by kernel_rfl) w fun _ _ _ _ _ hd hx => r_bool.ok hd hx
noncomputable def plan_look_pi.c : Entry := fun args _ _ => g_i64x16 args fun a0_0 a0_1 a0_2 a0_3 a0_4 a0_5 a0_6 a0_7 a0_8 a0_9 a0_10 a0_11 a0_12 a0_13 a0_14 a0_15 args => aN args (some { o := plan_look_pi.f a0_0 a0_1 a0_2 a0_3 a0_4 a0_5 a0_6 a0_7 a0_8 a0_9 a0_10 a0_11 a0_12 a0_13 a0_14 a0_15, enc := r_bool.enc })
theorem plan_look_pi.ok : EntryOK Try.prog 68 plan_look_pi.c := by
  intro args H hn c h _ r hr ρ w xs hx hrel
  unfold plan_look_pi.c at h
  obtain ⟨a0_0, a0_1, a0_2, a0_3, a0_4, a0_5, a0_6, a0_7, a0_8, a0_9, a0_10, a0_11, a0_12, a0_13, a0_14, a0_15, xs, args, rfl, hx, h⟩ := g_i64x16_ok h hx
  obtain ⟨rfl, h⟩ := aN_ok h hx
  cases h
  refine (plan_look_pi.calls a0_0 a0_1 a0_2 a0_3 a0_4 a0_5 a0_6 a0_7 a0_8 a0_9 a0_10 a0_11 a0_12 a0_13 a0_14 a0_15 r w hr).mono ?_
  rintro e w' ⟨rfl, hb⟩
  exact ⟨_, ρ, rfl, r_bool.enc_rel ρ r, ⟨rfl, hrel.below hb⟩, Eff.of_below hb⟩
noncomputable def t_plan_look_pi : List (Nat × Entry) := (68, plan_look_pi.c) :: t_plan_look_slot
theorem t_plan_look_pi_ok : TabOK Try.prog t_plan_look_pi := TabOK.cons plan_look_pi.ok t_plan_look_slot_ok
def plan_look_window.f (a0_0 : Int) (a0_1 : Int) (a0_2 : Int) (a0_3 : Int) (a0_4 : Int) (a0_5 : Int) (a0_6 : Int) (a0_7 : Int) (a0_8 : Int) (a0_9 : Int) (a0_10 : Int) (a0_11 : Int) (a0_12 : Int) (a0_13 : Int) (a0_14 : Int) (a0_15 : Int) : Option Bool :=
  ((plan_look_leastWindow.f a0_0 a0_1 a0_2 a0_3 a0_4 a0_5 a0_6 a0_7 a0_8 a0_9 a0_10 a0_11 a0_12 a0_13 a0_14 a0_15).bind fun t0 => ((plan_in.f a0_4 t0 1048576).bind fun t1 => some t1))
set_option maxRecDepth 100000 in
theorem plan_look_window.calls (a0_0 : Int) (a0_1 : Int) (a0_2 : Int) (a0_3 : Int) (a0_4 : Int) (a0_5 : Int) (a0_6 : Int) (a0_7 : Int) (a0_8 : Int) (a0_9 : Int) (a0_10 : Int) (a0_11 : Int) (a0_12 : Int) (a0_13 : Int) (a0_14 : Int) (a0_15 : Int) (r : Bool) (w : World) (h : plan_look_window.f a0_0 a0_1 a0_2 a0_3 a0_4 a0_5 a0_6 a0_7 a0_8 a0_9 a0_10 a0_11 a0_12 a0_13 a0_14 a0_15 = some r) :
    Calls Try.prog 69 #[.agg #[.int .i64 a0_0, .int .i64 a0_1, .int .i64 a0_2, .int .i64 a0_3, .int .i64 a0_4, .int .i64 a0_5, .int .i64 a0_6, .int .i64 a0_7, .int .i64 a0_8, .int .i64 a0_9, .int .i64 a0_10, .int .i64 a0_11, .int .i64 a0_12, .int .i64 a0_13, .int .i64 a0_14, .int .i64 a0_15]] w fun e w' => e = .returned (.bool r) ∧ Below w.heap.size w w' := by
  have ht : (walk Try.prog (ctOf t_plan_look_pi) noL 100000 69 [.agg [.int .i64 (.s a0_0), .int .i64 (.s a0_1), .int .i64 (.s a0_2), .int .i64 (.s a0_3), .int .i64 (.s a0_4), .int .i64 (.s a0_5), .int .i64 (.s a0_6), .int .i64 (.s a0_7), .int .i64 (.s a0_8), .int .i64 (.s a0_9), .int .i64 (.s a0_10), .int .i64 (.s a0_11), .int .i64 (.s a0_12), .int .i64 (.s a0_13), .int .i64 (.s a0_14), .int .i64 (.s a0_15)]] [] 0).opt r_bool.dec = plan_look_window.f a0_0 a0_1 a0_2 a0_3 a0_4 a0_5 a0_6 a0_7 a0_8 a0_9 a0_10 a0_11 a0_12 a0_13 a0_14 a0_15 := by kernel_rfl
  exact calls_of named mixed t_plan_look_pi_ok.ct noL_ok ht h (by kernel_rfl) (by kernel_rfl) w fun _ _ _ _ _ hd hx => r_bool.ok hd hx
noncomputable def plan_look_window.c : Entry := fun args _ _ => g_i64x16 args fun a0_0 a0_1 a0_2 a0_3 a0_4 a0_5 a0_6 a0_7 a0_8 a0_9 a0_10 a0_11 a0_12 a0_13 a0_14 a0_15 args => aN args (some { o := plan_look_window.f a0_0 a0_1 a0_2 a0_3 a0_4 a0_5 a0_6 a0_7 a0_8 a0_9 a0_10 a0_11 a0_12 a0_13 a0_14 a0_15, enc := r_bool.enc })
theorem plan_look_window.ok : EntryOK Try.prog 69 plan_look_window.c := by
  intro args H hn c h _ r hr ρ w xs hx hrel
  unfold plan_look_window.c at h
  obtain ⟨a0_0, a0_1, a0_2, a0_3, a0_4, a0_5, a0_6, a0_7, a0_8, a0_9, a0_10, a0_11, a0_12, a0_13, a0_14, a0_15, xs, args, rfl, hx, h⟩ := g_i64x16_ok h hx
  obtain ⟨rfl, h⟩ := aN_ok h hx
  cases h
  refine (plan_look_window.calls a0_0 a0_1 a0_2 a0_3 a0_4 a0_5 a0_6 a0_7 a0_8 a0_9 a0_10 a0_11 a0_12 a0_13 a0_14 a0_15 r w hr).mono ?_
  rintro e w' ⟨rfl, hb⟩
  exact ⟨_, ρ, rfl, r_bool.enc_rel ρ r, ⟨rfl, hrel.below hb⟩, Eff.of_below hb⟩
noncomputable def t_plan_look_window : List (Nat × Entry) := (69, plan_look_window.c) :: t_plan_look_pi
theorem t_plan_look_window_ok : TabOK Try.prog t_plan_look_window := TabOK.cons plan_look_window.ok t_plan_look_pi_ok
def plan_look_limit.f (a0_0 : Int) (a0_1 : Int) (a0_2 : Int) (a0_3 : Int) (a0_4 : Int) (a0_5 : Int) (a0_6 : Int) (a0_7 : Int) (a0_8 : Int) (a0_9 : Int) (a0_10 : Int) (a0_11 : Int) (a0_12 : Int) (a0_13 : Int) (a0_14 : Int) (a0_15 : Int) : Option Bool :=
  ((plan_look_leastCap.f a0_0 a0_1 a0_2 a0_3 a0_4 a0_5 a0_6 a0_7 a0_8 a0_9 a0_10 a0_11 a0_12 a0_13 a0_14 a0_15).bind fun t0 => ((plan_in.f a0_10 t0 1048576).bind fun t1 => some t1))
set_option maxRecDepth 100000 in
theorem plan_look_limit.calls (a0_0 : Int) (a0_1 : Int) (a0_2 : Int) (a0_3 : Int) (a0_4 : Int) (a0_5 : Int) (a0_6 : Int) (a0_7 : Int) (a0_8 : Int) (a0_9 : Int) (a0_10 : Int) (a0_11 : Int) (a0_12 : Int) (a0_13 : Int) (a0_14 : Int) (a0_15 : Int) (r : Bool) (w : World) (h : plan_look_limit.f a0_0 a0_1 a0_2 a0_3 a0_4 a0_5 a0_6 a0_7 a0_8 a0_9 a0_10 a0_11 a0_12 a0_13 a0_14 a0_15 = some r) :
    Calls Try.prog 70 #[.agg #[.int .i64 a0_0, .int .i64 a0_1, .int .i64 a0_2, .int .i64 a0_3, .int .i64 a0_4, .int .i64 a0_5, .int .i64 a0_6, .int .i64 a0_7, .int .i64 a0_8, .int .i64 a0_9, .int .i64 a0_10, .int .i64 a0_11, .int .i64 a0_12, .int .i64 a0_13, .int .i64 a0_14, .int .i64 a0_15]] w fun e w' => e = .returned (.bool r) ∧ Below w.heap.size w w' := by
  have ht : (walk Try.prog (ctOf t_plan_look_window) noL 100000 70 [.agg [.int .i64 (.s a0_0), .int .i64 (.s a0_1), .int .i64 (.s a0_2), .int .i64 (.s a0_3), .int .i64 (.s a0_4), .int .i64 (.s a0_5), .int .i64 (.s a0_6), .int .i64 (.s a0_7), .int .i64 (.s a0_8), .int .i64 (.s a0_9), .int .i64 (.s a0_10), .int .i64 (.s a0_11), .int .i64 (.s a0_12), .int .i64 (.s a0_13), .int .i64 (.s a0_14), .int .i64 (.s a0_15)]] [] 0).opt r_bool.dec = plan_look_limit.f a0_0 a0_1 a0_2 a0_3 a0_4 a0_5 a0_6 a0_7 a0_8 a0_9 a0_10 a0_11 a0_12 a0_13 a0_14 a0_15 := by kernel_rfl
  exact calls_of named mixed t_plan_look_window_ok.ct noL_ok ht h (by kernel_rfl) (by kernel_rfl) w fun _ _ _ _ _ hd hx => r_bool.ok hd hx
noncomputable def plan_look_limit.c : Entry := fun args _ _ => g_i64x16 args fun a0_0 a0_1 a0_2 a0_3 a0_4 a0_5 a0_6 a0_7 a0_8 a0_9 a0_10 a0_11 a0_12 a0_13 a0_14 a0_15 args => aN args (some { o := plan_look_limit.f a0_0 a0_1 a0_2 a0_3 a0_4 a0_5 a0_6 a0_7 a0_8 a0_9 a0_10 a0_11 a0_12 a0_13 a0_14 a0_15, enc := r_bool.enc })
theorem plan_look_limit.ok : EntryOK Try.prog 70 plan_look_limit.c := by
  intro args H hn c h _ r hr ρ w xs hx hrel
  unfold plan_look_limit.c at h
  obtain ⟨a0_0, a0_1, a0_2, a0_3, a0_4, a0_5, a0_6, a0_7, a0_8, a0_9, a0_10, a0_11, a0_12, a0_13, a0_14, a0_15, xs, args, rfl, hx, h⟩ := g_i64x16_ok h hx
  obtain ⟨rfl, h⟩ := aN_ok h hx
  cases h
  refine (plan_look_limit.calls a0_0 a0_1 a0_2 a0_3 a0_4 a0_5 a0_6 a0_7 a0_8 a0_9 a0_10 a0_11 a0_12 a0_13 a0_14 a0_15 r w hr).mono ?_
  rintro e w' ⟨rfl, hb⟩
  exact ⟨_, ρ, rfl, r_bool.enc_rel ρ r, ⟨rfl, hrel.below hb⟩, Eff.of_below hb⟩
noncomputable def t_plan_look_limit : List (Nat × Entry) := (70, plan_look_limit.c) :: t_plan_look_window
theorem t_plan_look_limit_ok : TabOK Try.prog t_plan_look_limit := TabOK.cons plan_look_limit.ok t_plan_look_window_ok
def plan_look_sends.f (a0_0 : Int) (a0_1 : Int) (a0_2 : Int) (a0_3 : Int) (a0_4 : Int) (a0_5 : Int) (a0_6 : Int) (a0_7 : Int) (a0_8 : Int) (a0_9 : Int) (a0_10 : Int) (a0_11 : Int) (a0_12 : Int) (a0_13 : Int) (a0_14 : Int) (a0_15 : Int) : Option Bool :=
  ((plan_look_leastOff.f a0_0 a0_1 a0_2 a0_3 a0_4 a0_5 a0_6 a0_7 a0_8 a0_9 a0_10 a0_11 a0_12 a0_13 a0_14 a0_15).bind fun t0 => ((plan_in.f a0_3 t0 1048576).bind fun t1 => some t1))
set_option maxRecDepth 100000 in
theorem plan_look_sends.calls (a0_0 : Int) (a0_1 : Int) (a0_2 : Int) (a0_3 : Int) (a0_4 : Int) (a0_5 : Int) (a0_6 : Int) (a0_7 : Int) (a0_8 : Int) (a0_9 : Int) (a0_10 : Int) (a0_11 : Int) (a0_12 : Int) (a0_13 : Int) (a0_14 : Int) (a0_15 : Int) (r : Bool) (w : World) (h : plan_look_sends.f a0_0 a0_1 a0_2 a0_3 a0_4 a0_5 a0_6 a0_7 a0_8 a0_9 a0_10 a0_11 a0_12 a0_13 a0_14 a0_15 = some r) :
    Calls Try.prog 71 #[.agg #[.int .i64 a0_0, .int .i64 a0_1, .int .i64 a0_2, .int .i64 a0_3, .int .i64 a0_4, .int .i64 a0_5, .int .i64 a0_6, .int .i64 a0_7, .int .i64 a0_8, .int .i64 a0_9, .int .i64 a0_10, .int .i64 a0_11, .int .i64 a0_12, .int .i64 a0_13, .int .i64 a0_14, .int .i64 a0_15]] w fun e w' => e = .returned (.bool r) ∧ Below w.heap.size w w' := by
  have ht : (walk Try.prog (ctOf t_plan_look_limit) noL 100000 71 [.agg [.int .i64 (.s a0_0), .int .i64 (.s a0_1), .int .i64 (.s a0_2), .int .i64 (.s a0_3), .int .i64 (.s a0_4), .int .i64 (.s a0_5), .int .i64 (.s a0_6), .int .i64 (.s a0_7), .int .i64 (.s a0_8), .int .i64 (.s a0_9), .int .i64 (.s a0_10), .int .i64 (.s a0_11), .int .i64 (.s a0_12), .int .i64 (.s a0_13), .int .i64 (.s a0_14), .int .i64 (.s a0_15)]] [] 0).opt r_bool.dec = plan_look_sends.f a0_0 a0_1 a0_2 a0_3 a0_4 a0_5 a0_6 a0_7 a0_8 a0_9 a0_10 a0_11 a0_12 a0_13 a0_14 a0_15 := by kernel_rfl
  exact calls_of named mixed t_plan_look_limit_ok.ct noL_ok ht h (by kernel_rfl) (by kernel_rfl) w fun _ _ _ _ _ hd hx => r_bool.ok hd hx
noncomputable def plan_look_sends.c : Entry := fun args _ _ => g_i64x16 args fun a0_0 a0_1 a0_2 a0_3 a0_4 a0_5 a0_6 a0_7 a0_8 a0_9 a0_10 a0_11 a0_12 a0_13 a0_14 a0_15 args => aN args (some { o := plan_look_sends.f a0_0 a0_1 a0_2 a0_3 a0_4 a0_5 a0_6 a0_7 a0_8 a0_9 a0_10 a0_11 a0_12 a0_13 a0_14 a0_15, enc := r_bool.enc })
theorem plan_look_sends.ok : EntryOK Try.prog 71 plan_look_sends.c := by
  intro args H hn c h _ r hr ρ w xs hx hrel
  unfold plan_look_sends.c at h
  obtain ⟨a0_0, a0_1, a0_2, a0_3, a0_4, a0_5, a0_6, a0_7, a0_8, a0_9, a0_10, a0_11, a0_12, a0_13, a0_14, a0_15, xs, args, rfl, hx, h⟩ := g_i64x16_ok h hx
  obtain ⟨rfl, h⟩ := aN_ok h hx
  cases h
  refine (plan_look_sends.calls a0_0 a0_1 a0_2 a0_3 a0_4 a0_5 a0_6 a0_7 a0_8 a0_9 a0_10 a0_11 a0_12 a0_13 a0_14 a0_15 r w hr).mono ?_
  rintro e w' ⟨rfl, hb⟩
  exact ⟨_, ρ, rfl, r_bool.enc_rel ρ r, ⟨rfl, hrel.below hb⟩, Eff.of_below hb⟩
noncomputable def t_plan_look_sends : List (Nat × Entry) := (71, plan_look_sends.c) :: t_plan_look_limit
theorem t_plan_look_sends_ok : TabOK Try.prog t_plan_look_sends := TabOK.cons plan_look_sends.ok t_plan_look_limit_ok
def plan_look_fits.f (a0_0 : Int) (a0_1 : Int) (a0_2 : Int) (a0_3 : Int) (a0_4 : Int) (a0_5 : Int) (a0_6 : Int) (a0_7 : Int) (a0_8 : Int) (a0_9 : Int) (a0_10 : Int) (a0_11 : Int) (a0_12 : Int) (a0_13 : Int) (a0_14 : Int) (a0_15 : Int) : Option Bool :=
  ((plan_look_leastSlot.f a0_0 a0_1 a0_2 a0_3 a0_4 a0_5 a0_6 a0_7 a0_8 a0_9 a0_10 a0_11 a0_12 a0_13 a0_14 a0_15).bind fun t0 => some (decide (a0_2 ≥ t0)))
set_option maxRecDepth 100000 in
theorem plan_look_fits.calls (a0_0 : Int) (a0_1 : Int) (a0_2 : Int) (a0_3 : Int) (a0_4 : Int) (a0_5 : Int) (a0_6 : Int) (a0_7 : Int) (a0_8 : Int) (a0_9 : Int) (a0_10 : Int) (a0_11 : Int) (a0_12 : Int) (a0_13 : Int) (a0_14 : Int) (a0_15 : Int) (r : Bool) (w : World) (h : plan_look_fits.f a0_0 a0_1 a0_2 a0_3 a0_4 a0_5 a0_6 a0_7 a0_8 a0_9 a0_10 a0_11 a0_12 a0_13 a0_14 a0_15 = some r) :
    Calls Try.prog 72 #[.agg #[.int .i64 a0_0, .int .i64 a0_1, .int .i64 a0_2, .int .i64 a0_3, .int .i64 a0_4, .int .i64 a0_5, .int .i64 a0_6, .int .i64 a0_7, .int .i64 a0_8, .int .i64 a0_9, .int .i64 a0_10, .int .i64 a0_11, .int .i64 a0_12, .int .i64 a0_13, .int .i64 a0_14, .int .i64 a0_15]] w fun e w' => e = .returned (.bool r) ∧ Below w.heap.size w w' := by
  have ht : (walk Try.prog (ctOf t_plan_look_sends) noL 100000 72 [.agg [.int .i64 (.s a0_0), .int .i64 (.s a0_1), .int .i64 (.s a0_2), .int .i64 (.s a0_3), .int .i64 (.s a0_4), .int .i64 (.s a0_5), .int .i64 (.s a0_6), .int .i64 (.s a0_7), .int .i64 (.s a0_8), .int .i64 (.s a0_9), .int .i64 (.s a0_10), .int .i64 (.s a0_11), .int .i64 (.s a0_12), .int .i64 (.s a0_13), .int .i64 (.s a0_14), .int .i64 (.s a0_15)]] [] 0).opt r_bool.dec = plan_look_fits.f a0_0 a0_1 a0_2 a0_3 a0_4 a0_5 a0_6 a0_7 a0_8 a0_9 a0_10 a0_11 a0_12 a0_13 a0_14 a0_15 := by kernel_rfl
  exact calls_of named mixed t_plan_look_sends_ok.ct noL_ok ht h (by kernel_rfl) (by kernel_rfl) w fun _ _ _ _ _ hd hx => r_bool.ok hd hx
noncomputable def plan_look_fits.c : Entry := fun args _ _ => g_i64x16 args fun a0_0 a0_1 a0_2 a0_3 a0_4 a0_5 a0_6 a0_7 a0_8 a0_9 a0_10 a0_11 a0_12 a0_13 a0_14 a0_15 args => aN args (some { o := plan_look_fits.f a0_0 a0_1 a0_2 a0_3 a0_4 a0_5 a0_6 a0_7 a0_8 a0_9 a0_10 a0_11 a0_12 a0_13 a0_14 a0_15, enc := r_bool.enc })
theorem plan_look_fits.ok : EntryOK Try.prog 72 plan_look_fits.c := by
  intro args H hn c h _ r hr ρ w xs hx hrel
  unfold plan_look_fits.c at h
  obtain ⟨a0_0, a0_1, a0_2, a0_3, a0_4, a0_5, a0_6, a0_7, a0_8, a0_9, a0_10, a0_11, a0_12, a0_13, a0_14, a0_15, xs, args, rfl, hx, h⟩ := g_i64x16_ok h hx
  obtain ⟨rfl, h⟩ := aN_ok h hx
  cases h
  refine (plan_look_fits.calls a0_0 a0_1 a0_2 a0_3 a0_4 a0_5 a0_6 a0_7 a0_8 a0_9 a0_10 a0_11 a0_12 a0_13 a0_14 a0_15 r w hr).mono ?_
  rintro e w' ⟨rfl, hb⟩
  exact ⟨_, ρ, rfl, r_bool.enc_rel ρ r, ⟨rfl, hrel.below hb⟩, Eff.of_below hb⟩
noncomputable def t_plan_look_fits : List (Nat × Entry) := (72, plan_look_fits.c) :: t_plan_look_sends
theorem t_plan_look_fits_ok : TabOK Try.prog t_plan_look_fits := TabOK.cons plan_look_fits.ok t_plan_look_sends_ok
def plan_look_queue.f (a0_0 : Int) (a0_1 : Int) (a0_2 : Int) (a0_3 : Int) (a0_4 : Int) (a0_5 : Int) (a0_6 : Int) (a0_7 : Int) (a0_8 : Int) (a0_9 : Int) (a0_10 : Int) (a0_11 : Int) (a0_12 : Int) (a0_13 : Int) (a0_14 : Int) (a0_15 : Int) : Option Bool :=
  ((plan_in.f a0_12 1 64).bind fun t0 => (if t0 = true then ((plan_in.f a0_13 1 8).bind fun t1 => (if t1 = true then ((plan_in.f a0_14 1 32).bind fun t2 => some t2) else some false)) else some false))
set_option maxRecDepth 100000 in
theorem plan_look_queue.calls (a0_0 : Int) (a0_1 : Int) (a0_2 : Int) (a0_3 : Int) (a0_4 : Int) (a0_5 : Int) (a0_6 : Int) (a0_7 : Int) (a0_8 : Int) (a0_9 : Int) (a0_10 : Int) (a0_11 : Int) (a0_12 : Int) (a0_13 : Int) (a0_14 : Int) (a0_15 : Int) (r : Bool) (w : World) (h : plan_look_queue.f a0_0 a0_1 a0_2 a0_3 a0_4 a0_5 a0_6 a0_7 a0_8 a0_9 a0_10 a0_11 a0_12 a0_13 a0_14 a0_15 = some r) :
    Calls Try.prog 49 #[.agg #[.int .i64 a0_0, .int .i64 a0_1, .int .i64 a0_2, .int .i64 a0_3, .int .i64 a0_4, .int .i64 a0_5, .int .i64 a0_6, .int .i64 a0_7, .int .i64 a0_8, .int .i64 a0_9, .int .i64 a0_10, .int .i64 a0_11, .int .i64 a0_12, .int .i64 a0_13, .int .i64 a0_14, .int .i64 a0_15]] w fun e w' => e = .returned (.bool r) ∧ Below w.heap.size w w' := by
  have ht : (walk Try.prog (ctOf t_plan_look_fits) noL 100000 49 [.agg [.int .i64 (.s a0_0), .int .i64 (.s a0_1), .int .i64 (.s a0_2), .int .i64 (.s a0_3), .int .i64 (.s a0_4), .int .i64 (.s a0_5), .int .i64 (.s a0_6), .int .i64 (.s a0_7), .int .i64 (.s a0_8), .int .i64 (.s a0_9), .int .i64 (.s a0_10), .int .i64 (.s a0_11), .int .i64 (.s a0_12), .int .i64 (.s a0_13), .int .i64 (.s a0_14), .int .i64 (.s a0_15)]] [] 0).opt r_bool.dec = plan_look_queue.f a0_0 a0_1 a0_2 a0_3 a0_4 a0_5 a0_6 a0_7 a0_8 a0_9 a0_10 a0_11 a0_12 a0_13 a0_14 a0_15 := by kernel_rfl
  exact calls_of named mixed t_plan_look_fits_ok.ct noL_ok ht h (by kernel_rfl) (by kernel_rfl) w fun _ _ _ _ _ hd hx => r_bool.ok hd hx
noncomputable def plan_look_queue.c : Entry := fun args _ _ => g_i64x16 args fun a0_0 a0_1 a0_2 a0_3 a0_4 a0_5 a0_6 a0_7 a0_8 a0_9 a0_10 a0_11 a0_12 a0_13 a0_14 a0_15 args => aN args (some { o := plan_look_queue.f a0_0 a0_1 a0_2 a0_3 a0_4 a0_5 a0_6 a0_7 a0_8 a0_9 a0_10 a0_11 a0_12 a0_13 a0_14 a0_15, enc := r_bool.enc })
theorem plan_look_queue.ok : EntryOK Try.prog 49 plan_look_queue.c := by
  intro args H hn c h _ r hr ρ w xs hx hrel
  unfold plan_look_queue.c at h
  obtain ⟨a0_0, a0_1, a0_2, a0_3, a0_4, a0_5, a0_6, a0_7, a0_8, a0_9, a0_10, a0_11, a0_12, a0_13, a0_14, a0_15, xs, args, rfl, hx, h⟩ := g_i64x16_ok h hx
  obtain ⟨rfl, h⟩ := aN_ok h hx
  cases h
  refine (plan_look_queue.calls a0_0 a0_1 a0_2 a0_3 a0_4 a0_5 a0_6 a0_7 a0_8 a0_9 a0_10 a0_11 a0_12 a0_13 a0_14 a0_15 r w hr).mono ?_
  rintro e w' ⟨rfl, hb⟩
  exact ⟨_, ρ, rfl, r_bool.enc_rel ρ r, ⟨rfl, hrel.below hb⟩, Eff.of_below hb⟩
noncomputable def t_plan_look_queue : List (Nat × Entry) := (49, plan_look_queue.c) :: t_plan_look_fits
theorem t_plan_look_queue_ok : TabOK Try.prog t_plan_look_queue := TabOK.cons plan_look_queue.ok t_plan_look_fits_ok
def plan_look_delta.f (a0_0 : Int) (a0_1 : Int) (a0_2 : Int) (a0_3 : Int) (a0_4 : Int) (a0_5 : Int) (a0_6 : Int) (a0_7 : Int) (a0_8 : Int) (a0_9 : Int) (a0_10 : Int) (a0_11 : Int) (a0_12 : Int) (a0_13 : Int) (a0_14 : Int) (a0_15 : Int) : Option Bool :=
  ((plan_look_leastDelta.f a0_0 a0_1 a0_2 a0_3 a0_4 a0_5 a0_6 a0_7 a0_8 a0_9 a0_10 a0_11 a0_12 a0_13 a0_14 a0_15).bind fun t0 => ((plan_look_round.f a0_0 a0_1 a0_2 a0_3 a0_4 a0_5 a0_6 a0_7 a0_8 a0_9 a0_10 a0_11 a0_12 a0_13 a0_14 a0_15).bind fun t1 => ((plan_in.f a0_11 t0 (wrap64 (64 * t1))).bind fun t2 => some t2)))
set_option maxRecDepth 100000 in
theorem plan_look_delta.calls (a0_0 : Int) (a0_1 : Int) (a0_2 : Int) (a0_3 : Int) (a0_4 : Int) (a0_5 : Int) (a0_6 : Int) (a0_7 : Int) (a0_8 : Int) (a0_9 : Int) (a0_10 : Int) (a0_11 : Int) (a0_12 : Int) (a0_13 : Int) (a0_14 : Int) (a0_15 : Int) (r : Bool) (w : World) (h : plan_look_delta.f a0_0 a0_1 a0_2 a0_3 a0_4 a0_5 a0_6 a0_7 a0_8 a0_9 a0_10 a0_11 a0_12 a0_13 a0_14 a0_15 = some r) :
    Calls Try.prog 73 #[.agg #[.int .i64 a0_0, .int .i64 a0_1, .int .i64 a0_2, .int .i64 a0_3, .int .i64 a0_4, .int .i64 a0_5, .int .i64 a0_6, .int .i64 a0_7, .int .i64 a0_8, .int .i64 a0_9, .int .i64 a0_10, .int .i64 a0_11, .int .i64 a0_12, .int .i64 a0_13, .int .i64 a0_14, .int .i64 a0_15]] w fun e w' => e = .returned (.bool r) ∧ Below w.heap.size w w' := by
  have ht : (walk Try.prog (ctOf t_plan_look_queue) noL 100000 73 [.agg [.int .i64 (.s a0_0), .int .i64 (.s a0_1), .int .i64 (.s a0_2), .int .i64 (.s a0_3), .int .i64 (.s a0_4), .int .i64 (.s a0_5), .int .i64 (.s a0_6), .int .i64 (.s a0_7), .int .i64 (.s a0_8), .int .i64 (.s a0_9), .int .i64 (.s a0_10), .int .i64 (.s a0_11), .int .i64 (.s a0_12), .int .i64 (.s a0_13), .int .i64 (.s a0_14), .int .i64 (.s a0_15)]] [] 0).opt r_bool.dec = plan_look_delta.f a0_0 a0_1 a0_2 a0_3 a0_4 a0_5 a0_6 a0_7 a0_8 a0_9 a0_10 a0_11 a0_12 a0_13 a0_14 a0_15 := by kernel_rfl
  exact calls_of named mixed t_plan_look_queue_ok.ct noL_ok ht h (by kernel_rfl) (by kernel_rfl) w fun _ _ _ _ _ hd hx => r_bool.ok hd hx
noncomputable def plan_look_delta.c : Entry := fun args _ _ => g_i64x16 args fun a0_0 a0_1 a0_2 a0_3 a0_4 a0_5 a0_6 a0_7 a0_8 a0_9 a0_10 a0_11 a0_12 a0_13 a0_14 a0_15 args => aN args (some { o := plan_look_delta.f a0_0 a0_1 a0_2 a0_3 a0_4 a0_5 a0_6 a0_7 a0_8 a0_9 a0_10 a0_11 a0_12 a0_13 a0_14 a0_15, enc := r_bool.enc })
theorem plan_look_delta.ok : EntryOK Try.prog 73 plan_look_delta.c := by
  intro args H hn c h _ r hr ρ w xs hx hrel
  unfold plan_look_delta.c at h
  obtain ⟨a0_0, a0_1, a0_2, a0_3, a0_4, a0_5, a0_6, a0_7, a0_8, a0_9, a0_10, a0_11, a0_12, a0_13, a0_14, a0_15, xs, args, rfl, hx, h⟩ := g_i64x16_ok h hx
  obtain ⟨rfl, h⟩ := aN_ok h hx
  cases h
  refine (plan_look_delta.calls a0_0 a0_1 a0_2 a0_3 a0_4 a0_5 a0_6 a0_7 a0_8 a0_9 a0_10 a0_11 a0_12 a0_13 a0_14 a0_15 r w hr).mono ?_
  rintro e w' ⟨rfl, hb⟩
  exact ⟨_, ρ, rfl, r_bool.enc_rel ρ r, ⟨rfl, hrel.below hb⟩, Eff.of_below hb⟩
noncomputable def t_plan_look_delta : List (Nat × Entry) := (73, plan_look_delta.c) :: t_plan_look_queue
theorem t_plan_look_delta_ok : TabOK Try.prog t_plan_look_delta := TabOK.cons plan_look_delta.ok t_plan_look_queue_ok
def plan_look_horizon.f (a0_0 : Int) (a0_1 : Int) (a0_2 : Int) (a0_3 : Int) (a0_4 : Int) (a0_5 : Int) (a0_6 : Int) (a0_7 : Int) (a0_8 : Int) (a0_9 : Int) (a0_10 : Int) (a0_11 : Int) (a0_12 : Int) (a0_13 : Int) (a0_14 : Int) (a0_15 : Int) : Option Bool :=
  ((plan_look_round.f a0_0 a0_1 a0_2 a0_3 a0_4 a0_5 a0_6 a0_7 a0_8 a0_9 a0_10 a0_11 a0_12 a0_13 a0_14 a0_15).bind fun t0 => ((plan_in.f a0_15 (wrap64 (40 * t0)) 2147483648).bind fun t1 => some t1))
set_option maxRecDepth 100000 in
theorem plan_look_horizon.calls (a0_0 : Int) (a0_1 : Int) (a0_2 : Int) (a0_3 : Int) (a0_4 : Int) (a0_5 : Int) (a0_6 : Int) (a0_7 : Int) (a0_8 : Int) (a0_9 : Int) (a0_10 : Int) (a0_11 : Int) (a0_12 : Int) (a0_13 : Int) (a0_14 : Int) (a0_15 : Int) (r : Bool) (w : World) (h : plan_look_horizon.f a0_0 a0_1 a0_2 a0_3 a0_4 a0_5 a0_6 a0_7 a0_8 a0_9 a0_10 a0_11 a0_12 a0_13 a0_14 a0_15 = some r) :
    Calls Try.prog 74 #[.agg #[.int .i64 a0_0, .int .i64 a0_1, .int .i64 a0_2, .int .i64 a0_3, .int .i64 a0_4, .int .i64 a0_5, .int .i64 a0_6, .int .i64 a0_7, .int .i64 a0_8, .int .i64 a0_9, .int .i64 a0_10, .int .i64 a0_11, .int .i64 a0_12, .int .i64 a0_13, .int .i64 a0_14, .int .i64 a0_15]] w fun e w' => e = .returned (.bool r) ∧ Below w.heap.size w w' := by
  have ht : (walk Try.prog (ctOf t_plan_look_delta) noL 100000 74 [.agg [.int .i64 (.s a0_0), .int .i64 (.s a0_1), .int .i64 (.s a0_2), .int .i64 (.s a0_3), .int .i64 (.s a0_4), .int .i64 (.s a0_5), .int .i64 (.s a0_6), .int .i64 (.s a0_7), .int .i64 (.s a0_8), .int .i64 (.s a0_9), .int .i64 (.s a0_10), .int .i64 (.s a0_11), .int .i64 (.s a0_12), .int .i64 (.s a0_13), .int .i64 (.s a0_14), .int .i64 (.s a0_15)]] [] 0).opt r_bool.dec = plan_look_horizon.f a0_0 a0_1 a0_2 a0_3 a0_4 a0_5 a0_6 a0_7 a0_8 a0_9 a0_10 a0_11 a0_12 a0_13 a0_14 a0_15 := by kernel_rfl
  exact calls_of named mixed t_plan_look_delta_ok.ct noL_ok ht h (by kernel_rfl) (by kernel_rfl) w fun _ _ _ _ _ hd hx => r_bool.ok hd hx
noncomputable def plan_look_horizon.c : Entry := fun args _ _ => g_i64x16 args fun a0_0 a0_1 a0_2 a0_3 a0_4 a0_5 a0_6 a0_7 a0_8 a0_9 a0_10 a0_11 a0_12 a0_13 a0_14 a0_15 args => aN args (some { o := plan_look_horizon.f a0_0 a0_1 a0_2 a0_3 a0_4 a0_5 a0_6 a0_7 a0_8 a0_9 a0_10 a0_11 a0_12 a0_13 a0_14 a0_15, enc := r_bool.enc })
theorem plan_look_horizon.ok : EntryOK Try.prog 74 plan_look_horizon.c := by
  intro args H hn c h _ r hr ρ w xs hx hrel
  unfold plan_look_horizon.c at h
  obtain ⟨a0_0, a0_1, a0_2, a0_3, a0_4, a0_5, a0_6, a0_7, a0_8, a0_9, a0_10, a0_11, a0_12, a0_13, a0_14, a0_15, xs, args, rfl, hx, h⟩ := g_i64x16_ok h hx
  obtain ⟨rfl, h⟩ := aN_ok h hx
  cases h
  refine (plan_look_horizon.calls a0_0 a0_1 a0_2 a0_3 a0_4 a0_5 a0_6 a0_7 a0_8 a0_9 a0_10 a0_11 a0_12 a0_13 a0_14 a0_15 r w hr).mono ?_
  rintro e w' ⟨rfl, hb⟩
  exact ⟨_, ρ, rfl, r_bool.enc_rel ρ r, ⟨rfl, hrel.below hb⟩, Eff.of_below hb⟩
noncomputable def t_plan_look_horizon : List (Nat × Entry) := (74, plan_look_horizon.c) :: t_plan_look_delta
theorem t_plan_look_horizon_ok : TabOK Try.prog t_plan_look_horizon := TabOK.cons plan_look_horizon.ok t_plan_look_delta_ok
def plan_look_known.f (a0_0 : Int) (a0_1 : Int) (a0_2 : Int) (a0_3 : Int) (a0_4 : Int) (a0_5 : Int) (a0_6 : Int) (a0_7 : Int) (a0_8 : Int) (a0_9 : Int) (a0_10 : Int) (a0_11 : Int) (a0_12 : Int) (a0_13 : Int) (a0_14 : Int) (a0_15 : Int) : Option Bool :=
  ((plan_look_nodes.f a0_0 a0_1 a0_2 a0_3 a0_4 a0_5 a0_6 a0_7 a0_8 a0_9 a0_10 a0_11 a0_12 a0_13 a0_14 a0_15).bind fun t0 => (if t0 = true then ((plan_look_air.f a0_0 a0_1 a0_2 a0_3 a0_4 a0_5 a0_6 a0_7 a0_8 a0_9 a0_10 a0_11 a0_12 a0_13 a0_14 a0_15).bind fun t1 => (if t1 = true then ((plan_look_slot.f a0_0 a0_1 a0_2 a0_3 a0_4 a0_5 a0_6 a0_7 a0_8 a0_9 a0_10 a0_11 a0_12 a0_13 a0_14 a0_15).bind fun t2 => some t2) else some false)) else some false))
set_option maxRecDepth 100000 in
theorem plan_look_known.calls (a0_0 : Int) (a0_1 : Int) (a0_2 : Int) (a0_3 : Int) (a0_4 : Int) (a0_5 : Int) (a0_6 : Int) (a0_7 : Int) (a0_8 : Int) (a0_9 : Int) (a0_10 : Int) (a0_11 : Int) (a0_12 : Int) (a0_13 : Int) (a0_14 : Int) (a0_15 : Int) (r : Bool) (w : World) (h : plan_look_known.f a0_0 a0_1 a0_2 a0_3 a0_4 a0_5 a0_6 a0_7 a0_8 a0_9 a0_10 a0_11 a0_12 a0_13 a0_14 a0_15 = some r) :
    Calls Try.prog 48 #[.agg #[.int .i64 a0_0, .int .i64 a0_1, .int .i64 a0_2, .int .i64 a0_3, .int .i64 a0_4, .int .i64 a0_5, .int .i64 a0_6, .int .i64 a0_7, .int .i64 a0_8, .int .i64 a0_9, .int .i64 a0_10, .int .i64 a0_11, .int .i64 a0_12, .int .i64 a0_13, .int .i64 a0_14, .int .i64 a0_15]] w fun e w' => e = .returned (.bool r) ∧ Below w.heap.size w w' := by
  have ht : (walk Try.prog (ctOf t_plan_look_horizon) noL 100000 48 [.agg [.int .i64 (.s a0_0), .int .i64 (.s a0_1), .int .i64 (.s a0_2), .int .i64 (.s a0_3), .int .i64 (.s a0_4), .int .i64 (.s a0_5), .int .i64 (.s a0_6), .int .i64 (.s a0_7), .int .i64 (.s a0_8), .int .i64 (.s a0_9), .int .i64 (.s a0_10), .int .i64 (.s a0_11), .int .i64 (.s a0_12), .int .i64 (.s a0_13), .int .i64 (.s a0_14), .int .i64 (.s a0_15)]] [] 0).opt r_bool.dec = plan_look_known.f a0_0 a0_1 a0_2 a0_3 a0_4 a0_5 a0_6 a0_7 a0_8 a0_9 a0_10 a0_11 a0_12 a0_13 a0_14 a0_15 := by kernel_rfl
  exact calls_of named mixed t_plan_look_horizon_ok.ct noL_ok ht h (by kernel_rfl) (by kernel_rfl) w fun _ _ _ _ _ hd hx => r_bool.ok hd hx
noncomputable def plan_look_known.c : Entry := fun args _ _ => g_i64x16 args fun a0_0 a0_1 a0_2 a0_3 a0_4 a0_5 a0_6 a0_7 a0_8 a0_9 a0_10 a0_11 a0_12 a0_13 a0_14 a0_15 args => aN args (some { o := plan_look_known.f a0_0 a0_1 a0_2 a0_3 a0_4 a0_5 a0_6 a0_7 a0_8 a0_9 a0_10 a0_11 a0_12 a0_13 a0_14 a0_15, enc := r_bool.enc })
theorem plan_look_known.ok : EntryOK Try.prog 48 plan_look_known.c := by
  intro args H hn c h _ r hr ρ w xs hx hrel
  unfold plan_look_known.c at h
  obtain ⟨a0_0, a0_1, a0_2, a0_3, a0_4, a0_5, a0_6, a0_7, a0_8, a0_9, a0_10, a0_11, a0_12, a0_13, a0_14, a0_15, xs, args, rfl, hx, h⟩ := g_i64x16_ok h hx
  obtain ⟨rfl, h⟩ := aN_ok h hx
  cases h
  refine (plan_look_known.calls a0_0 a0_1 a0_2 a0_3 a0_4 a0_5 a0_6 a0_7 a0_8 a0_9 a0_10 a0_11 a0_12 a0_13 a0_14 a0_15 r w hr).mono ?_
  rintro e w' ⟨rfl, hb⟩
  exact ⟨_, ρ, rfl, r_bool.enc_rel ρ r, ⟨rfl, hrel.below hb⟩, Eff.of_below hb⟩
noncomputable def t_plan_look_known : List (Nat × Entry) := (48, plan_look_known.c) :: t_plan_look_horizon
theorem t_plan_look_known_ok : TabOK Try.prog t_plan_look_known := TabOK.cons plan_look_known.ok t_plan_look_horizon_ok
def plan_Fails.f (a0_0 : Int) (a0_1 : Int) (a0_2 : Int) (a0_3 : Int) (a0_4 : Int) (a0_5 : Int) (a0_6 : Int) (a0_7 : Int) (a0_8 : Int) (a0_9 : Int) (a0_10 : Int) (a0_11 : Int) (a0_12 : Int) (a0_13 : Int) (a0_14 : Int) (a0_15 : Int) : Option Int :=
  ((plan_look_nodes.f a0_0 a0_1 a0_2 a0_3 a0_4 a0_5 a0_6 a0_7 a0_8 a0_9 a0_10 a0_11 a0_12 a0_13 a0_14 a0_15).bind fun t0 => (if (!t0) = true then some 1 else ((plan_look_air.f a0_0 a0_1 a0_2 a0_3 a0_4 a0_5 a0_6 a0_7 a0_8 a0_9 a0_10 a0_11 a0_12 a0_13 a0_14 a0_15).bind fun t1 => (if (!t1) = true then some 2 else ((plan_look_slot.f a0_0 a0_1 a0_2 a0_3 a0_4 a0_5 a0_6 a0_7 a0_8 a0_9 a0_10 a0_11 a0_12 a0_13 a0_14 a0_15).bind fun t2 => (if (!t2) = true then some 3 else ((plan_look_pi.f a0_0 a0_1 a0_2 a0_3 a0_4 a0_5 a0_6 a0_7 a0_8 a0_9 a0_10 a0_11 a0_12 a0_13 a0_14 a0_15).bind fun t3 => (if (!t3) = true then some 4 else ((plan_look_window.f a0_0 a0_1 a0_2 a0_3 a0_4 a0_5 a0_6 a0_7 a0_8 a0_9 a0_10 a0_11 a0_12 a0_13 a0_14 a0_15).bind fun t4 => (if (!t4) = true then some 5 else ((plan_look_limit.f a0_0 a0_1 a0_2 a0_3 a0_4 a0_5 a0_6 a0_7 a0_8 a0_9 a0_10 a0_11 a0_12 a0_13 a0_14 a0_15).bind fun t5 => (if (!t5) = true then some 6 else ((plan_look_sends.f a0_0 a0_1 a0_2 a0_3 a0_4 a0_5 a0_6 a0_7 a0_8 a0_9 a0_10 a0_11 a0_12 a0_13 a0_14 a0_15).bind fun t6 => (if (!t6) = true then some 7 else ((plan_look_fits.f a0_0 a0_1 a0_2 a0_3 a0_4 a0_5 a0_6 a0_7 a0_8 a0_9 a0_10 a0_11 a0_12 a0_13 a0_14 a0_15).bind fun t7 => (if (!t7) = true then some 8 else ((plan_look_queue.f a0_0 a0_1 a0_2 a0_3 a0_4 a0_5 a0_6 a0_7 a0_8 a0_9 a0_10 a0_11 a0_12 a0_13 a0_14 a0_15).bind fun t8 => (if (!t8) = true then some 9 else ((plan_look_delta.f a0_0 a0_1 a0_2 a0_3 a0_4 a0_5 a0_6 a0_7 a0_8 a0_9 a0_10 a0_11 a0_12 a0_13 a0_14 a0_15).bind fun t9 => (if (!t9) = true then some 10 else ((plan_look_horizon.f a0_0 a0_1 a0_2 a0_3 a0_4 a0_5 a0_6 a0_7 a0_8 a0_9 a0_10 a0_11 a0_12 a0_13 a0_14 a0_15).bind fun t10 => (if (!t10) = true then some 11 else some 0))))))))))))))))))))))
set_option maxRecDepth 100000 in
theorem plan_Fails.calls (a0_0 : Int) (a0_1 : Int) (a0_2 : Int) (a0_3 : Int) (a0_4 : Int) (a0_5 : Int) (a0_6 : Int) (a0_7 : Int) (a0_8 : Int) (a0_9 : Int) (a0_10 : Int) (a0_11 : Int) (a0_12 : Int) (a0_13 : Int) (a0_14 : Int) (a0_15 : Int) (r : Int) (w : World) (h : plan_Fails.f a0_0 a0_1 a0_2 a0_3 a0_4 a0_5 a0_6 a0_7 a0_8 a0_9 a0_10 a0_11 a0_12 a0_13 a0_14 a0_15 = some r) :
    Calls Try.prog 42 #[.agg #[.int .i64 a0_0, .int .i64 a0_1, .int .i64 a0_2, .int .i64 a0_3, .int .i64 a0_4, .int .i64 a0_5, .int .i64 a0_6, .int .i64 a0_7, .int .i64 a0_8, .int .i64 a0_9, .int .i64 a0_10, .int .i64 a0_11, .int .i64 a0_12, .int .i64 a0_13, .int .i64 a0_14, .int .i64 a0_15]] w fun e w' => e = .returned (.int .i64 r) ∧ Below w.heap.size w w' := by
  have ht : (walk Try.prog (ctOf t_plan_look_known) noL 100000 42 [.agg [.int .i64 (.s a0_0), .int .i64 (.s a0_1), .int .i64 (.s a0_2), .int .i64 (.s a0_3), .int .i64 (.s a0_4), .int .i64 (.s a0_5), .int .i64 (.s a0_6), .int .i64 (.s a0_7), .int .i64 (.s a0_8), .int .i64 (.s a0_9), .int .i64 (.s a0_10), .int .i64 (.s a0_11), .int .i64 (.s a0_12), .int .i64 (.s a0_13), .int .i64 (.s a0_14), .int .i64 (.s a0_15)]] [] 0).opt r_i64.dec = plan_Fails.f a0_0 a0_1 a0_2 a0_3 a0_4 a0_5 a0_6 a0_7 a0_8 a0_9 a0_10 a0_11 a0_12 a0_13 a0_14 a0_15 := by kernel_rfl
  exact calls_of named mixed t_plan_look_known_ok.ct noL_ok ht h (by kernel_rfl) (by kernel_rfl) w fun _ _ _ _ _ hd hx => r_i64.ok hd hx
noncomputable def plan_Fails.c : Entry := fun args _ _ => g_i64x16 args fun a0_0 a0_1 a0_2 a0_3 a0_4 a0_5 a0_6 a0_7 a0_8 a0_9 a0_10 a0_11 a0_12 a0_13 a0_14 a0_15 args => aN args (some { o := plan_Fails.f a0_0 a0_1 a0_2 a0_3 a0_4 a0_5 a0_6 a0_7 a0_8 a0_9 a0_10 a0_11 a0_12 a0_13 a0_14 a0_15, enc := r_i64.enc })
theorem plan_Fails.ok : EntryOK Try.prog 42 plan_Fails.c := by
  intro args H hn c h _ r hr ρ w xs hx hrel
  unfold plan_Fails.c at h
  obtain ⟨a0_0, a0_1, a0_2, a0_3, a0_4, a0_5, a0_6, a0_7, a0_8, a0_9, a0_10, a0_11, a0_12, a0_13, a0_14, a0_15, xs, args, rfl, hx, h⟩ := g_i64x16_ok h hx
  obtain ⟨rfl, h⟩ := aN_ok h hx
  cases h
  refine (plan_Fails.calls a0_0 a0_1 a0_2 a0_3 a0_4 a0_5 a0_6 a0_7 a0_8 a0_9 a0_10 a0_11 a0_12 a0_13 a0_14 a0_15 r w hr).mono ?_
  rintro e w' ⟨rfl, hb⟩
  exact ⟨_, ρ, rfl, r_i64.enc_rel ρ r, ⟨rfl, hrel.below hb⟩, Eff.of_below hb⟩
noncomputable def t_plan_Fails : List (Nat × Entry) := (42, plan_Fails.c) :: t_plan_look_known
theorem t_plan_Fails_ok : TabOK Try.prog t_plan_Fails := TabOK.cons plan_Fails.ok t_plan_look_known_ok
def plan_Check.f (a0_0 : Int) (a0_1 : Int) (a0_2 : Int) (a0_3 : Int) (a0_4 : Int) (a0_5 : Int) (a0_6 : Int) (a0_7 : Int) (a0_8 : Int) (a0_9 : Int) (a0_10 : Int) (a0_11 : Int) (a0_12 : Int) (a0_13 : Int) (a0_14 : Int) (a0_15 : Int) : Option Int :=
  ((plan_Fails.f a0_0 a0_1 a0_2 a0_3 a0_4 a0_5 a0_6 a0_7 a0_8 a0_9 a0_10 a0_11 a0_12 a0_13 a0_14 a0_15).bind fun t0 => (if t0 ≠ 0 then some 70 else some 0))
set_option maxRecDepth 100000 in
theorem plan_Check.calls (a0_0 : Int) (a0_1 : Int) (a0_2 : Int) (a0_3 : Int) (a0_4 : Int) (a0_5 : Int) (a0_6 : Int) (a0_7 : Int) (a0_8 : Int) (a0_9 : Int) (a0_10 : Int) (a0_11 : Int) (a0_12 : Int) (a0_13 : Int) (a0_14 : Int) (a0_15 : Int) (r : Int) (w : World) (h : plan_Check.f a0_0 a0_1 a0_2 a0_3 a0_4 a0_5 a0_6 a0_7 a0_8 a0_9 a0_10 a0_11 a0_12 a0_13 a0_14 a0_15 = some r) :
    Calls Try.prog 31 #[.agg #[.int .i64 a0_0, .int .i64 a0_1, .int .i64 a0_2, .int .i64 a0_3, .int .i64 a0_4, .int .i64 a0_5, .int .i64 a0_6, .int .i64 a0_7, .int .i64 a0_8, .int .i64 a0_9, .int .i64 a0_10, .int .i64 a0_11, .int .i64 a0_12, .int .i64 a0_13, .int .i64 a0_14, .int .i64 a0_15]] w fun e w' => e = .returned (.int .i64 r) ∧ Below w.heap.size w w' := by
  have ht : (walk Try.prog (ctOf t_plan_Fails) noL 100000 31 [.agg [.int .i64 (.s a0_0), .int .i64 (.s a0_1), .int .i64 (.s a0_2), .int .i64 (.s a0_3), .int .i64 (.s a0_4), .int .i64 (.s a0_5), .int .i64 (.s a0_6), .int .i64 (.s a0_7), .int .i64 (.s a0_8), .int .i64 (.s a0_9), .int .i64 (.s a0_10), .int .i64 (.s a0_11), .int .i64 (.s a0_12), .int .i64 (.s a0_13), .int .i64 (.s a0_14), .int .i64 (.s a0_15)]] [] 0).opt r_i64.dec = plan_Check.f a0_0 a0_1 a0_2 a0_3 a0_4 a0_5 a0_6 a0_7 a0_8 a0_9 a0_10 a0_11 a0_12 a0_13 a0_14 a0_15 := by kernel_rfl
  exact calls_of named mixed t_plan_Fails_ok.ct noL_ok ht h (by kernel_rfl) (by kernel_rfl) w fun _ _ _ _ _ hd hx => r_i64.ok hd hx
noncomputable def plan_Check.c : Entry := fun args _ _ => g_i64x16 args fun a0_0 a0_1 a0_2 a0_3 a0_4 a0_5 a0_6 a0_7 a0_8 a0_9 a0_10 a0_11 a0_12 a0_13 a0_14 a0_15 args => aN args (some { o := plan_Check.f a0_0 a0_1 a0_2 a0_3 a0_4 a0_5 a0_6 a0_7 a0_8 a0_9 a0_10 a0_11 a0_12 a0_13 a0_14 a0_15, enc := r_i64.enc })
theorem plan_Check.ok : EntryOK Try.prog 31 plan_Check.c := by
  intro args H hn c h _ r hr ρ w xs hx hrel
  unfold plan_Check.c at h
  obtain ⟨a0_0, a0_1, a0_2, a0_3, a0_4, a0_5, a0_6, a0_7, a0_8, a0_9, a0_10, a0_11, a0_12, a0_13, a0_14, a0_15, xs, args, rfl, hx, h⟩ := g_i64x16_ok h hx
  obtain ⟨rfl, h⟩ := aN_ok h hx
  cases h
  refine (plan_Check.calls a0_0 a0_1 a0_2 a0_3 a0_4 a0_5 a0_6 a0_7 a0_8 a0_9 a0_10 a0_11 a0_12 a0_13 a0_14 a0_15 r w hr).mono ?_
  rintro e w' ⟨rfl, hb⟩
  exact ⟨_, ρ, rfl, r_i64.enc_rel ρ r, ⟨rfl, hrel.below hb⟩, Eff.of_below hb⟩
noncomputable def t_plan_Check : List (Nat × Entry) := (31, plan_Check.c) :: t_plan_Fails
theorem t_plan_Check_ok : TabOK Try.prog t_plan_Check := TabOK.cons plan_Check.ok t_plan_Fails_ok
def plan_Round.f (a0_0 : Int) (a0_1 : Int) (a0_2 : Int) (a0_3 : Int) (a0_4 : Int) (a0_5 : Int) (a0_6 : Int) (a0_7 : Int) (a0_8 : Int) (a0_9 : Int) (a0_10 : Int) (a0_11 : Int) (a0_12 : Int) (a0_13 : Int) (a0_14 : Int) (a0_15 : Int) : Option Int :=
  ((plan_look_known.f a0_0 a0_1 a0_2 a0_3 a0_4 a0_5 a0_6 a0_7 a0_8 a0_9 a0_10 a0_11 a0_12 a0_13 a0_14 a0_15).bind fun t0 => (if t0 = true then ((plan_look_round.f a0_0 a0_1 a0_2 a0_3 a0_4 a0_5 a0_6 a0_7 a0_8 a0_9 a0_10 a0_11 a0_12 a0_13 a0_14 a0_15).bind fun t1 => some t1) else some 0))
set_option maxRecDepth 100000 in
theorem plan_Round.calls (a0_0 : Int) (a0_1 : Int) (a0_2 : Int) (a0_3 : Int) (a0_4 : Int) (a0_5 : Int) (a0_6 : Int) (a0_7 : Int) (a0_8 : Int) (a0_9 : Int) (a0_10 : Int) (a0_11 : Int) (a0_12 : Int) (a0_13 : Int) (a0_14 : Int) (a0_15 : Int) (r : Int) (w : World) (h : plan_Round.f a0_0 a0_1 a0_2 a0_3 a0_4 a0_5 a0_6 a0_7 a0_8 a0_9 a0_10 a0_11 a0_12 a0_13 a0_14 a0_15 = some r) :
    Calls Try.prog 41 #[.agg #[.int .i64 a0_0, .int .i64 a0_1, .int .i64 a0_2, .int .i64 a0_3, .int .i64 a0_4, .int .i64 a0_5, .int .i64 a0_6, .int .i64 a0_7, .int .i64 a0_8, .int .i64 a0_9, .int .i64 a0_10, .int .i64 a0_11, .int .i64 a0_12, .int .i64 a0_13, .int .i64 a0_14, .int .i64 a0_15]] w fun e w' => e = .returned (.int .i64 r) ∧ Below w.heap.size w w' := by
  have ht : (walk Try.prog (ctOf t_plan_Check) noL 100000 41 [.agg [.int .i64 (.s a0_0), .int .i64 (.s a0_1), .int .i64 (.s a0_2), .int .i64 (.s a0_3), .int .i64 (.s a0_4), .int .i64 (.s a0_5), .int .i64 (.s a0_6), .int .i64 (.s a0_7), .int .i64 (.s a0_8), .int .i64 (.s a0_9), .int .i64 (.s a0_10), .int .i64 (.s a0_11), .int .i64 (.s a0_12), .int .i64 (.s a0_13), .int .i64 (.s a0_14), .int .i64 (.s a0_15)]] [] 0).opt r_i64.dec = plan_Round.f a0_0 a0_1 a0_2 a0_3 a0_4 a0_5 a0_6 a0_7 a0_8 a0_9 a0_10 a0_11 a0_12 a0_13 a0_14 a0_15 := by kernel_rfl
  exact calls_of named mixed t_plan_Check_ok.ct noL_ok ht h (by kernel_rfl) (by kernel_rfl) w fun _ _ _ _ _ hd hx => r_i64.ok hd hx
noncomputable def plan_Round.c : Entry := fun args _ _ => g_i64x16 args fun a0_0 a0_1 a0_2 a0_3 a0_4 a0_5 a0_6 a0_7 a0_8 a0_9 a0_10 a0_11 a0_12 a0_13 a0_14 a0_15 args => aN args (some { o := plan_Round.f a0_0 a0_1 a0_2 a0_3 a0_4 a0_5 a0_6 a0_7 a0_8 a0_9 a0_10 a0_11 a0_12 a0_13 a0_14 a0_15, enc := r_i64.enc })
theorem plan_Round.ok : EntryOK Try.prog 41 plan_Round.c := by
  intro args H hn c h _ r hr ρ w xs hx hrel
  unfold plan_Round.c at h
  obtain ⟨a0_0, a0_1, a0_2, a0_3, a0_4, a0_5, a0_6, a0_7, a0_8, a0_9, a0_10, a0_11, a0_12, a0_13, a0_14, a0_15, xs, args, rfl, hx, h⟩ := g_i64x16_ok h hx
  obtain ⟨rfl, h⟩ := aN_ok h hx
  cases h
  refine (plan_Round.calls a0_0 a0_1 a0_2 a0_3 a0_4 a0_5 a0_6 a0_7 a0_8 a0_9 a0_10 a0_11 a0_12 a0_13 a0_14 a0_15 r w hr).mono ?_
  rintro e w' ⟨rfl, hb⟩
  exact ⟨_, ρ, rfl, r_i64.enc_rel ρ r, ⟨rfl, hrel.below hb⟩, Eff.of_below hb⟩
noncomputable def t_plan_Round : List (Nat × Entry) := (41, plan_Round.c) :: t_plan_Check
theorem t_plan_Round_ok : TabOK Try.prog t_plan_Round := TabOK.cons plan_Round.ok t_plan_Check_ok
def table_middle.f (a0_0 : Int) (a0_1 : Int) (a0_2 : Int) (a0_3 : Int) (a0_4 : Int) (a0_5 : Int) (a0_6 : Int) (a0_7 : Int) (a0_8 : Int) (a0_9 : Int) (a0_10 : Int) (a0_11 : Int) (a0_12 : Int) (a0_13 : Int) (a0_14 : Int) (a0_15 : Int) : Option Int :=
  some (wrap64 ((wrap64 (a0_6 + a0_7)).tdiv 2))
set_option maxRecDepth 100000 in
theorem table_middle.calls (a0_0 : Int) (a0_1 : Int) (a0_2 : Int) (a0_3 : Int) (a0_4 : Int) (a0_5 : Int) (a0_6 : Int) (a0_7 : Int) (a0_8 : Int) (a0_9 : Int) (a0_10 : Int) (a0_11 : Int) (a0_12 : Int) (a0_13 : Int) (a0_14 : Int) (a0_15 : Int) (r : Int) (w : World) (h : table_middle.f a0_0 a0_1 a0_2 a0_3 a0_4 a0_5 a0_6 a0_7 a0_8 a0_9 a0_10 a0_11 a0_12 a0_13 a0_14 a0_15 = some r) :
    Calls Try.prog 32 #[.agg #[.int .i64 a0_0, .int .i64 a0_1, .int .i64 a0_2, .int .i64 a0_3, .int .i64 a0_4, .int .i64 a0_5, .int .i64 a0_6, .int .i64 a0_7, .int .i64 a0_8, .int .i64 a0_9, .int .i64 a0_10, .int .i64 a0_11, .int .i64 a0_12, .int .i64 a0_13, .int .i64 a0_14, .int .i64 a0_15]] w fun e w' => e = .returned (.int .i64 r) ∧ Below w.heap.size w w' := by
  have ht : (walk Try.prog (ctOf t_plan_Round) noL 100000 32 [.agg [.int .i64 (.s a0_0), .int .i64 (.s a0_1), .int .i64 (.s a0_2), .int .i64 (.s a0_3), .int .i64 (.s a0_4), .int .i64 (.s a0_5), .int .i64 (.s a0_6), .int .i64 (.s a0_7), .int .i64 (.s a0_8), .int .i64 (.s a0_9), .int .i64 (.s a0_10), .int .i64 (.s a0_11), .int .i64 (.s a0_12), .int .i64 (.s a0_13), .int .i64 (.s a0_14), .int .i64 (.s a0_15)]] [] 0).opt r_i64.dec = table_middle.f a0_0 a0_1 a0_2 a0_3 a0_4 a0_5 a0_6 a0_7 a0_8 a0_9 a0_10 a0_11 a0_12 a0_13 a0_14 a0_15 := by kernel_rfl
  exact calls_of named mixed t_plan_Round_ok.ct noL_ok ht h (by kernel_rfl) (by kernel_rfl) w fun _ _ _ _ _ hd hx => r_i64.ok hd hx
noncomputable def table_middle.c : Entry := fun args _ _ => g_i64x16 args fun a0_0 a0_1 a0_2 a0_3 a0_4 a0_5 a0_6 a0_7 a0_8 a0_9 a0_10 a0_11 a0_12 a0_13 a0_14 a0_15 args => aN args (some { o := table_middle.f a0_0 a0_1 a0_2 a0_3 a0_4 a0_5 a0_6 a0_7 a0_8 a0_9 a0_10 a0_11 a0_12 a0_13 a0_14 a0_15, enc := r_i64.enc })
theorem table_middle.ok : EntryOK Try.prog 32 table_middle.c := by
  intro args H hn c h _ r hr ρ w xs hx hrel
  unfold table_middle.c at h
  obtain ⟨a0_0, a0_1, a0_2, a0_3, a0_4, a0_5, a0_6, a0_7, a0_8, a0_9, a0_10, a0_11, a0_12, a0_13, a0_14, a0_15, xs, args, rfl, hx, h⟩ := g_i64x16_ok h hx
  obtain ⟨rfl, h⟩ := aN_ok h hx
  cases h
  refine (table_middle.calls a0_0 a0_1 a0_2 a0_3 a0_4 a0_5 a0_6 a0_7 a0_8 a0_9 a0_10 a0_11 a0_12 a0_13 a0_14 a0_15 r w hr).mono ?_
  rintro e w' ⟨rfl, hb⟩
  exact ⟨_, ρ, rfl, r_i64.enc_rel ρ r, ⟨rfl, hrel.below hb⟩, Eff.of_below hb⟩
noncomputable def t_table_middle : List (Nat × Entry) := (32, table_middle.c) :: t_plan_Round
theorem t_table_middle_ok : TabOK Try.prog t_table_middle := TabOK.cons table_middle.ok t_plan_Round_ok
def g_i64x2 (args : List AV) (f : Int → Int → List AV → Option Con) : Option Con := aG args fun l r => aI .i64 l fun x0 l => aI .i64 l fun x1 l => aN l (f x0 x1 r)
theorem g_i64x2_ok {ρ : Pl} {args : List AV} {xs : List Value} {c : Con} {f : Int → Int → List AV → Option Con} (h : g_i64x2 args f = some c) (hx : AV.relL ρ args xs) :
    ∃ x0 x1 xs' l, xs = .agg #[.int .i64 x0, .int .i64 x1] :: xs' ∧ AV.relL ρ l xs' ∧ f x0 x1 l = some c := by
  unfold g_i64x2 at h
  obtain ⟨vs, xs', l, r, rfl, hl, hr, h⟩ := aG_ok h hx
  clear hx
  obtain ⟨x0, vs, l, rfl, hl, h⟩ := aI_ok h hl
  obtain ⟨x1, vs, l, rfl, hl, h⟩ := aI_ok h hl
  obtain ⟨rfl, h⟩ := aN_ok h hl
  exact ⟨x0, x1, xs', r, rfl, hr, h⟩
def table_has.f (a0_0 : Int) (a0_1 : Int) (a0_2 : Int) (a0_3 : Int) (a0_4 : Int) (a0_5 : Int) (a0_6 : Int) (a0_7 : Int) (a0_8 : Int) (a0_9 : Int) (a0_10 : Int) (a0_11 : Int) (a0_12 : Int) (a0_13 : Int) (a0_14 : Int) (a0_15 : Int) (a1_0 : Int) (a1_1 : Int) : Option Bool :=
  ((plan_Check.f a0_0 a0_1 a0_2 a0_3 a0_4 a0_5 a0_6 a0_7 a0_8 a0_9 a0_10 a0_11 a0_12 a0_13 a0_14 a0_15).bind fun t0 => (if t0 = 0 then (if a1_0 ≥ 0 then (if a1_0 ≤ 2147483647 then (if a1_1 ≥ 0 then some (decide (a1_1 < a0_0)) else some false) else some false) else some false) else some false))
set_option maxRecDepth 100000 in
theorem table_has.calls (a0_0 : Int) (a0_1 : Int) (a0_2 : Int) (a0_3 : Int) (a0_4 : Int) (a0_5 : Int) (a0_6 : Int) (a0_7 : Int) (a0_8 : Int) (a0_9 : Int) (a0_10 : Int) (a0_11 : Int) (a0_12 : Int) (a0_13 : Int) (a0_14 : Int) (a0_15 : Int) (a1_0 : Int) (a1_1 : Int) (r : Bool) (w : World) (h : table_has.f a0_0 a0_1 a0_2 a0_3 a0_4 a0_5 a0_6 a0_7 a0_8 a0_9 a0_10 a0_11 a0_12 a0_13 a0_14 a0_15 a1_0 a1_1 = some r) :
    Calls Try.prog 25 #[.agg #[.int .i64 a0_0, .int .i64 a0_1, .int .i64 a0_2, .int .i64 a0_3, .int .i64 a0_4, .int .i64 a0_5, .int .i64 a0_6, .int .i64 a0_7, .int .i64 a0_8, .int .i64 a0_9, .int .i64 a0_10, .int .i64 a0_11, .int .i64 a0_12, .int .i64 a0_13, .int .i64 a0_14, .int .i64 a0_15], .agg #[.int .i64 a1_0, .int .i64 a1_1]] w fun e w' => e = .returned (.bool r) ∧ Below w.heap.size w w' := by
  have ht : (walk Try.prog (ctOf t_table_middle) noL 100000 25 [.agg [.int .i64 (.s a0_0), .int .i64 (.s a0_1), .int .i64 (.s a0_2), .int .i64 (.s a0_3), .int .i64 (.s a0_4), .int .i64 (.s a0_5), .int .i64 (.s a0_6), .int .i64 (.s a0_7), .int .i64 (.s a0_8), .int .i64 (.s a0_9), .int .i64 (.s a0_10), .int .i64 (.s a0_11), .int .i64 (.s a0_12), .int .i64 (.s a0_13), .int .i64 (.s a0_14), .int .i64 (.s a0_15)], .agg [.int .i64 (.s a1_0), .int .i64 (.s a1_1)]] [] 0).opt r_bool.dec = table_has.f a0_0 a0_1 a0_2 a0_3 a0_4 a0_5 a0_6 a0_7 a0_8 a0_9 a0_10 a0_11 a0_12 a0_13 a0_14 a0_15 a1_0 a1_1 := by kernel_rfl
  exact calls_of named mixed t_table_middle_ok.ct noL_ok ht h (by kernel_rfl) (by kernel_rfl) w fun _ _ _ _ _ hd hx => r_bool.ok hd hx
noncomputable def table_has.c : Entry := fun args _ _ => g_i64x16 args fun a0_0 a0_1 a0_2 a0_3 a0_4 a0_5 a0_6 a0_7 a0_8 a0_9 a0_10 a0_11 a0_12 a0_13 a0_14 a0_15 args => g_i64x2 args fun a1_0 a1_1 args => aN args (some { o := table_has.f a0_0 a0_1 a0_2 a0_3 a0_4 a0_5 a0_6 a0_7 a0_8 a0_9 a0_10 a0_11 a0_12 a0_13 a0_14 a0_15 a1_0 a1_1, enc := r_bool.enc })
theorem table_has.ok : EntryOK Try.prog 25 table_has.c := by
  intro args H hn c h _ r hr ρ w xs hx hrel
  unfold table_has.c at h
  obtain ⟨a0_0, a0_1, a0_2, a0_3, a0_4, a0_5, a0_6, a0_7, a0_8, a0_9, a0_10, a0_11, a0_12, a0_13, a0_14, a0_15, xs, args, rfl, hx, h⟩ := g_i64x16_ok h hx
  obtain ⟨a1_0, a1_1, xs, args, rfl, hx, h⟩ := g_i64x2_ok h hx
  obtain ⟨rfl, h⟩ := aN_ok h hx
  cases h
  refine (table_has.calls a0_0 a0_1 a0_2 a0_3 a0_4 a0_5 a0_6 a0_7 a0_8 a0_9 a0_10 a0_11 a0_12 a0_13 a0_14 a0_15 a1_0 a1_1 r w hr).mono ?_
  rintro e w' ⟨rfl, hb⟩
  exact ⟨_, ρ, rfl, r_bool.enc_rel ρ r, ⟨rfl, hrel.below hb⟩, Eff.of_below hb⟩
noncomputable def t_table_has : List (Nat × Entry) := (25, table_has.c) :: t_table_middle
theorem t_table_has_ok : TabOK Try.prog t_table_has := TabOK.cons table_has.ok t_table_middle_ok
def g_i64x18 (args : List AV) (f : Int → Int → Int → Int → Int → Int → Int → Int → Int → Int → Int → Int → Int → Int → Int → Int → Int → Int → List AV → Option Con) : Option Con := aG args fun l r => aI .i64 l fun x0 l => aI .i64 l fun x1 l => aI .i64 l fun x2 l => aI .i64 l fun x3 l => aI .i64 l fun x4 l => aI .i64 l fun x5 l => aI .i64 l fun x6 l => aI .i64 l fun x7 l => aI .i64 l fun x8 l => aI .i64 l fun x9 l => aI .i64 l fun x10 l => aI .i64 l fun x11 l => aI .i64 l fun x12 l => aI .i64 l fun x13 l => aI .i64 l fun x14 l => aI .i64 l fun x15 l => aI .i64 l fun x16 l => aI .i64 l fun x17 l => aN l (f x0 x1 x2 x3 x4 x5 x6 x7 x8 x9 x10 x11 x12 x13 x14 x15 x16 x17 r)
theorem g_i64x18_ok {ρ : Pl} {args : List AV} {xs : List Value} {c : Con} {f : Int → Int → Int → Int → Int → Int → Int → Int → Int → Int → Int → Int → Int → Int → Int → Int → Int → Int → List AV → Option Con} (h : g_i64x18 args f = some c) (hx : AV.relL ρ args xs) :
    ∃ x0 x1 x2 x3 x4 x5 x6 x7 x8 x9 x10 x11 x12 x13 x14 x15 x16 x17 xs' l, xs = .agg #[.int .i64 x0, .int .i64 x1, .int .i64 x2, .int .i64 x3, .int .i64 x4, .int .i64 x5, .int .i64 x6, .int .i64 x7, .int .i64 x8, .int .i64 x9, .int .i64 x10, .int .i64 x11, .int .i64 x12, .int .i64 x13, .int .i64 x14, .int .i64 x15, .int .i64 x16, .int .i64 x17] :: xs' ∧ AV.relL ρ l xs' ∧ f x0 x1 x2 x3 x4 x5 x6 x7 x8 x9 x10 x11 x12 x13 x14 x15 x16 x17 l = some c := by
  unfold g_i64x18 at h
  obtain ⟨vs, xs', l, r, rfl, hl, hr, h⟩ := aG_ok h hx
  clear hx
  obtain ⟨x0, vs, l, rfl, hl, h⟩ := aI_ok h hl
  obtain ⟨x1, vs, l, rfl, hl, h⟩ := aI_ok h hl
  obtain ⟨x2, vs, l, rfl, hl, h⟩ := aI_ok h hl
  obtain ⟨x3, vs, l, rfl, hl, h⟩ := aI_ok h hl
  obtain ⟨x4, vs, l, rfl, hl, h⟩ := aI_ok h hl
  obtain ⟨x5, vs, l, rfl, hl, h⟩ := aI_ok h hl
  obtain ⟨x6, vs, l, rfl, hl, h⟩ := aI_ok h hl
  obtain ⟨x7, vs, l, rfl, hl, h⟩ := aI_ok h hl
  obtain ⟨x8, vs, l, rfl, hl, h⟩ := aI_ok h hl
  obtain ⟨x9, vs, l, rfl, hl, h⟩ := aI_ok h hl
  obtain ⟨x10, vs, l, rfl, hl, h⟩ := aI_ok h hl
  obtain ⟨x11, vs, l, rfl, hl, h⟩ := aI_ok h hl
  obtain ⟨x12, vs, l, rfl, hl, h⟩ := aI_ok h hl
  obtain ⟨x13, vs, l, rfl, hl, h⟩ := aI_ok h hl
  obtain ⟨x14, vs, l, rfl, hl, h⟩ := aI_ok h hl
  obtain ⟨x15, vs, l, rfl, hl, h⟩ := aI_ok h hl
  obtain ⟨x16, vs, l, rfl, hl, h⟩ := aI_ok h hl
  obtain ⟨x17, vs, l, rfl, hl, h⟩ := aI_ok h hl
  obtain ⟨rfl, h⟩ := aN_ok h hl
  exact ⟨x0, x1, x2, x3, x4, x5, x6, x7, x8, x9, x10, x11, x12, x13, x14, x15, x16, x17, xs', r, rfl, hr, h⟩
def table_spot_number.f (a0_0 : Int) (a0_1 : Int) (a0_2 : Int) (a0_3 : Int) (a0_4 : Int) (a0_5 : Int) (a0_6 : Int) (a0_7 : Int) (a0_8 : Int) (a0_9 : Int) (a0_10 : Int) (a0_11 : Int) (a0_12 : Int) (a0_13 : Int) (a0_14 : Int) (a0_15 : Int) (a0_16 : Int) (a0_17 : Int) : Option Int :=
  some (wrap64 (wrap64 (a0_16 * a0_0) + a0_17))
set_option maxRecDepth 100000 in
theorem table_spot_number.calls (a0_0 : Int) (a0_1 : Int) (a0_2 : Int) (a0_3 : Int) (a0_4 : Int) (a0_5 : Int) (a0_6 : Int) (a0_7 : Int) (a0_8 : Int) (a0_9 : Int) (a0_10 : Int) (a0_11 : Int) (a0_12 : Int) (a0_13 : Int) (a0_14 : Int) (a0_15 : Int) (a0_16 : Int) (a0_17 : Int) (r : Int) (w : World) (h : table_spot_number.f a0_0 a0_1 a0_2 a0_3 a0_4 a0_5 a0_6 a0_7 a0_8 a0_9 a0_10 a0_11 a0_12 a0_13 a0_14 a0_15 a0_16 a0_17 = some r) :
    Calls Try.prog 52 #[.agg #[.int .i64 a0_0, .int .i64 a0_1, .int .i64 a0_2, .int .i64 a0_3, .int .i64 a0_4, .int .i64 a0_5, .int .i64 a0_6, .int .i64 a0_7, .int .i64 a0_8, .int .i64 a0_9, .int .i64 a0_10, .int .i64 a0_11, .int .i64 a0_12, .int .i64 a0_13, .int .i64 a0_14, .int .i64 a0_15, .int .i64 a0_16, .int .i64 a0_17]] w fun e w' => e = .returned (.int .i64 r) ∧ Below w.heap.size w w' := by
  have ht : (walk Try.prog (ctOf t_table_has) noL 100000 52 [.agg [.int .i64 (.s a0_0), .int .i64 (.s a0_1), .int .i64 (.s a0_2), .int .i64 (.s a0_3), .int .i64 (.s a0_4), .int .i64 (.s a0_5), .int .i64 (.s a0_6), .int .i64 (.s a0_7), .int .i64 (.s a0_8), .int .i64 (.s a0_9), .int .i64 (.s a0_10), .int .i64 (.s a0_11), .int .i64 (.s a0_12), .int .i64 (.s a0_13), .int .i64 (.s a0_14), .int .i64 (.s a0_15), .int .i64 (.s a0_16), .int .i64 (.s a0_17)]] [] 0).opt r_i64.dec = table_spot_number.f a0_0 a0_1 a0_2 a0_3 a0_4 a0_5 a0_6 a0_7 a0_8 a0_9 a0_10 a0_11 a0_12 a0_13 a0_14 a0_15 a0_16 a0_17 := by kernel_rfl
  exact calls_of named mixed t_table_has_ok.ct noL_ok ht h (by kernel_rfl) (by kernel_rfl) w fun _ _ _ _ _ hd hx => r_i64.ok hd hx
noncomputable def table_spot_number.c : Entry := fun args _ _ => g_i64x18 args fun a0_0 a0_1 a0_2 a0_3 a0_4 a0_5 a0_6 a0_7 a0_8 a0_9 a0_10 a0_11 a0_12 a0_13 a0_14 a0_15 a0_16 a0_17 args => aN args (some { o := table_spot_number.f a0_0 a0_1 a0_2 a0_3 a0_4 a0_5 a0_6 a0_7 a0_8 a0_9 a0_10 a0_11 a0_12 a0_13 a0_14 a0_15 a0_16 a0_17, enc := r_i64.enc })
theorem table_spot_number.ok : EntryOK Try.prog 52 table_spot_number.c := by
  intro args H hn c h _ r hr ρ w xs hx hrel
  unfold table_spot_number.c at h
  obtain ⟨a0_0, a0_1, a0_2, a0_3, a0_4, a0_5, a0_6, a0_7, a0_8, a0_9, a0_10, a0_11, a0_12, a0_13, a0_14, a0_15, a0_16, a0_17, xs, args, rfl, hx, h⟩ := g_i64x18_ok h hx
  obtain ⟨rfl, h⟩ := aN_ok h hx
  cases h
  refine (table_spot_number.calls a0_0 a0_1 a0_2 a0_3 a0_4 a0_5 a0_6 a0_7 a0_8 a0_9 a0_10 a0_11 a0_12 a0_13 a0_14 a0_15 a0_16 a0_17 r w hr).mono ?_
  rintro e w' ⟨rfl, hb⟩
  exact ⟨_, ρ, rfl, r_i64.enc_rel ρ r, ⟨rfl, hrel.below hb⟩, Eff.of_below hb⟩
noncomputable def t_table_spot_number : List (Nat × Entry) := (52, table_spot_number.c) :: t_table_has
theorem t_table_spot_number_ok : TabOK Try.prog t_table_spot_number := TabOK.cons table_spot_number.ok t_table_has_ok
def table_spot_begin.f (a0_0 : Int) (a0_1 : Int) (a0_2 : Int) (a0_3 : Int) (a0_4 : Int) (a0_5 : Int) (a0_6 : Int) (a0_7 : Int) (a0_8 : Int) (a0_9 : Int) (a0_10 : Int) (a0_11 : Int) (a0_12 : Int) (a0_13 : Int) (a0_14 : Int) (a0_15 : Int) (a0_16 : Int) (a0_17 : Int) : Option Int :=
  ((table_spot_number.f a0_0 a0_1 a0_2 a0_3 a0_4 a0_5 a0_6 a0_7 a0_8 a0_9 a0_10 a0_11 a0_12 a0_13 a0_14 a0_15 a0_16 a0_17).bind fun t0 => some (wrap64 (t0 * a0_2)))
set_option maxRecDepth 100000 in
theorem table_spot_begin.calls (a0_0 : Int) (a0_1 : Int) (a0_2 : Int) (a0_3 : Int) (a0_4 : Int) (a0_5 : Int) (a0_6 : Int) (a0_7 : Int) (a0_8 : Int) (a0_9 : Int) (a0_10 : Int) (a0_11 : Int) (a0_12 : Int) (a0_13 : Int) (a0_14 : Int) (a0_15 : Int) (a0_16 : Int) (a0_17 : Int) (r : Int) (w : World) (h : table_spot_begin.f a0_0 a0_1 a0_2 a0_3 a0_4 a0_5 a0_6 a0_7 a0_8 a0_9 a0_10 a0_11 a0_12 a0_13 a0_14 a0_15 a0_16 a0_17 = some r) :
    Calls Try.prog 39 #[.agg #[.int .i64 a0_0, .int .i64 a0_1, .int .i64 a0_2, .int .i64 a0_3, .int .i64 a0_4, .int .i64 a0_5, .int .i64 a0_6, .int .i64 a0_7, .int .i64 a0_8, .int .i64 a0_9, .int .i64 a0_10, .int .i64 a0_11, .int .i64 a0_12, .int .i64 a0_13, .int .i64 a0_14, .int .i64 a0_15, .int .i64 a0_16, .int .i64 a0_17]] w fun e w' => e = .returned (.int .i64 r) ∧ Below w.heap.size w w' := by
  have ht : (walk Try.prog (ctOf t_table_spot_number) noL 100000 39 [.agg [.int .i64 (.s a0_0), .int .i64 (.s a0_1), .int .i64 (.s a0_2), .int .i64 (.s a0_3), .int .i64 (.s a0_4), .int .i64 (.s a0_5), .int .i64 (.s a0_6), .int .i64 (.s a0_7), .int .i64 (.s a0_8), .int .i64 (.s a0_9), .int .i64 (.s a0_10), .int .i64 (.s a0_11), .int .i64 (.s a0_12), .int .i64 (.s a0_13), .int .i64 (.s a0_14), .int .i64 (.s a0_15), .int .i64 (.s a0_16), .int .i64 (.s a0_17)]] [] 0).opt r_i64.dec = table_spot_begin.f a0_0 a0_1 a0_2 a0_3 a0_4 a0_5 a0_6 a0_7 a0_8 a0_9 a0_10 a0_11 a0_12 a0_13 a0_14 a0_15 a0_16 a0_17 := by kernel_rfl
  exact calls_of named mixed t_table_spot_number_ok.ct noL_ok ht h (by kernel_rfl) (by kernel_rfl) w fun _ _ _ _ _ hd hx => r_i64.ok hd hx
noncomputable def table_spot_begin.c : Entry := fun args _ _ => g_i64x18 args fun a0_0 a0_1 a0_2 a0_3 a0_4 a0_5 a0_6 a0_7 a0_8 a0_9 a0_10 a0_11 a0_12 a0_13 a0_14 a0_15 a0_16 a0_17 args => aN args (some { o := table_spot_begin.f a0_0 a0_1 a0_2 a0_3 a0_4 a0_5 a0_6 a0_7 a0_8 a0_9 a0_10 a0_11 a0_12 a0_13 a0_14 a0_15 a0_16 a0_17, enc := r_i64.enc })
theorem table_spot_begin.ok : EntryOK Try.prog 39 table_spot_begin.c := by
  intro args H hn c h _ r hr ρ w xs hx hrel
  unfold table_spot_begin.c at h
  obtain ⟨a0_0, a0_1, a0_2, a0_3, a0_4, a0_5, a0_6, a0_7, a0_8, a0_9, a0_10, a0_11, a0_12, a0_13, a0_14, a0_15, a0_16, a0_17, xs, args, rfl, hx, h⟩ := g_i64x18_ok h hx
  obtain ⟨rfl, h⟩ := aN_ok h hx
  cases h
  refine (table_spot_begin.calls a0_0 a0_1 a0_2 a0_3 a0_4 a0_5 a0_6 a0_7 a0_8 a0_9 a0_10 a0_11 a0_12 a0_13 a0_14 a0_15 a0_16 a0_17 r w hr).mono ?_
  rintro e w' ⟨rfl, hb⟩
  exact ⟨_, ρ, rfl, r_i64.enc_rel ρ r, ⟨rfl, hrel.below hb⟩, Eff.of_below hb⟩
noncomputable def t_table_spot_begin : List (Nat × Entry) := (39, table_spot_begin.c) :: t_table_spot_number
theorem t_table_spot_begin_ok : TabOK Try.prog t_table_spot_begin := TabOK.cons table_spot_begin.ok t_table_spot_number_ok
def table_spot_sends.f (a0_0 : Int) (a0_1 : Int) (a0_2 : Int) (a0_3 : Int) (a0_4 : Int) (a0_5 : Int) (a0_6 : Int) (a0_7 : Int) (a0_8 : Int) (a0_9 : Int) (a0_10 : Int) (a0_11 : Int) (a0_12 : Int) (a0_13 : Int) (a0_14 : Int) (a0_15 : Int) (a0_16 : Int) (a0_17 : Int) : Option Int :=
  ((table_spot_begin.f a0_0 a0_1 a0_2 a0_3 a0_4 a0_5 a0_6 a0_7 a0_8 a0_9 a0_10 a0_11 a0_12 a0_13 a0_14 a0_15 a0_16 a0_17).bind fun t0 => some (wrap64 (t0 + a0_3)))
set_option maxRecDepth 100000 in
theorem table_spot_sends.calls (a0_0 : Int) (a0_1 : Int) (a0_2 : Int) (a0_3 : Int) (a0_4 : Int) (a0_5 : Int) (a0_6 : Int) (a0_7 : Int) (a0_8 : Int) (a0_9 : Int) (a0_10 : Int) (a0_11 : Int) (a0_12 : Int) (a0_13 : Int) (a0_14 : Int) (a0_15 : Int) (a0_16 : Int) (a0_17 : Int) (r : Int) (w : World) (h : table_spot_sends.f a0_0 a0_1 a0_2 a0_3 a0_4 a0_5 a0_6 a0_7 a0_8 a0_9 a0_10 a0_11 a0_12 a0_13 a0_14 a0_15 a0_16 a0_17 = some r) :
    Calls Try.prog 29 #[.agg #[.int .i64 a0_0, .int .i64 a0_1, .int .i64 a0_2, .int .i64 a0_3, .int .i64 a0_4, .int .i64 a0_5, .int .i64 a0_6, .int .i64 a0_7, .int .i64 a0_8, .int .i64 a0_9, .int .i64 a0_10, .int .i64 a0_11, .int .i64 a0_12, .int .i64 a0_13, .int .i64 a0_14, .int .i64 a0_15, .int .i64 a0_16, .int .i64 a0_17]] w fun e w' => e = .returned (.int .i64 r) ∧ Below w.heap.size w w' := by
  have ht : (walk Try.prog (ctOf t_table_spot_begin) noL 100000 29 [.agg [.int .i64 (.s a0_0), .int .i64 (.s a0_1), .int .i64 (.s a0_2), .int .i64 (.s a0_3), .int .i64 (.s a0_4), .int .i64 (.s a0_5), .int .i64 (.s a0_6), .int .i64 (.s a0_7), .int .i64 (.s a0_8), .int .i64 (.s a0_9), .int .i64 (.s a0_10), .int .i64 (.s a0_11), .int .i64 (.s a0_12), .int .i64 (.s a0_13), .int .i64 (.s a0_14), .int .i64 (.s a0_15), .int .i64 (.s a0_16), .int .i64 (.s a0_17)]] [] 0).opt r_i64.dec = table_spot_sends.f a0_0 a0_1 a0_2 a0_3 a0_4 a0_5 a0_6 a0_7 a0_8 a0_9 a0_10 a0_11 a0_12 a0_13 a0_14 a0_15 a0_16 a0_17 := by kernel_rfl
  exact calls_of named mixed t_table_spot_begin_ok.ct noL_ok ht h (by kernel_rfl) (by kernel_rfl) w fun _ _ _ _ _ hd hx => r_i64.ok hd hx
noncomputable def table_spot_sends.c : Entry := fun args _ _ => g_i64x18 args fun a0_0 a0_1 a0_2 a0_3 a0_4 a0_5 a0_6 a0_7 a0_8 a0_9 a0_10 a0_11 a0_12 a0_13 a0_14 a0_15 a0_16 a0_17 args => aN args (some { o := table_spot_sends.f a0_0 a0_1 a0_2 a0_3 a0_4 a0_5 a0_6 a0_7 a0_8 a0_9 a0_10 a0_11 a0_12 a0_13 a0_14 a0_15 a0_16 a0_17, enc := r_i64.enc })
theorem table_spot_sends.ok : EntryOK Try.prog 29 table_spot_sends.c := by
  intro args H hn c h _ r hr ρ w xs hx hrel
  unfold table_spot_sends.c at h
  obtain ⟨a0_0, a0_1, a0_2, a0_3, a0_4, a0_5, a0_6, a0_7, a0_8, a0_9, a0_10, a0_11, a0_12, a0_13, a0_14, a0_15, a0_16, a0_17, xs, args, rfl, hx, h⟩ := g_i64x18_ok h hx
  obtain ⟨rfl, h⟩ := aN_ok h hx
  cases h
  refine (table_spot_sends.calls a0_0 a0_1 a0_2 a0_3 a0_4 a0_5 a0_6 a0_7 a0_8 a0_9 a0_10 a0_11 a0_12 a0_13 a0_14 a0_15 a0_16 a0_17 r w hr).mono ?_
  rintro e w' ⟨rfl, hb⟩
  exact ⟨_, ρ, rfl, r_i64.enc_rel ρ r, ⟨rfl, hrel.below hb⟩, Eff.of_below hb⟩
noncomputable def t_table_spot_sends : List (Nat × Entry) := (29, table_spot_sends.c) :: t_table_spot_begin
theorem t_table_spot_sends_ok : TabOK Try.prog t_table_spot_sends := TabOK.cons table_spot_sends.ok t_table_spot_begin_ok
def table_spot_expected.f (a0_0 : Int) (a0_1 : Int) (a0_2 : Int) (a0_3 : Int) (a0_4 : Int) (a0_5 : Int) (a0_6 : Int) (a0_7 : Int) (a0_8 : Int) (a0_9 : Int) (a0_10 : Int) (a0_11 : Int) (a0_12 : Int) (a0_13 : Int) (a0_14 : Int) (a0_15 : Int) (a0_16 : Int) (a0_17 : Int) : Option Int :=
  ((table_spot_sends.f a0_0 a0_1 a0_2 a0_3 a0_4 a0_5 a0_6 a0_7 a0_8 a0_9 a0_10 a0_11 a0_12 a0_13 a0_14 a0_15 a0_16 a0_17).bind fun t0 => ((table_middle.f a0_0 a0_1 a0_2 a0_3 a0_4 a0_5 a0_6 a0_7 a0_8 a0_9 a0_10 a0_11 a0_12 a0_13 a0_14 a0_15).bind fun t1 => some (wrap64 (t0 + t1))))
set_option maxRecDepth 100000 in
theorem table_spot_expected.calls (a0_0 : Int) (a0_1 : Int) (a0_2 : Int) (a0_3 : Int) (a0_4 : Int) (a0_5 : Int) (a0_6 : Int) (a0_7 : Int) (a0_8 : Int) (a0_9 : Int) (a0_10 : Int) (a0_11 : Int) (a0_12 : Int) (a0_13 : Int) (a0_14 : Int) (a0_15 : Int) (a0_16 : Int) (a0_17 : Int) (r : Int) (w : World) (h : table_spot_expected.f a0_0 a0_1 a0_2 a0_3 a0_4 a0_5 a0_6 a0_7 a0_8 a0_9 a0_10 a0_11 a0_12 a0_13 a0_14 a0_15 a0_16 a0_17 = some r) :
    Calls Try.prog 38 #[.agg #[.int .i64 a0_0, .int .i64 a0_1, .int .i64 a0_2, .int .i64 a0_3, .int .i64 a0_4, .int .i64 a0_5, .int .i64 a0_6, .int .i64 a0_7, .int .i64 a0_8, .int .i64 a0_9, .int .i64 a0_10, .int .i64 a0_11, .int .i64 a0_12, .int .i64 a0_13, .int .i64 a0_14, .int .i64 a0_15, .int .i64 a0_16, .int .i64 a0_17]] w fun e w' => e = .returned (.int .i64 r) ∧ Below w.heap.size w w' := by
  have ht : (walk Try.prog (ctOf t_table_spot_sends) noL 100000 38 [.agg [.int .i64 (.s a0_0), .int .i64 (.s a0_1), .int .i64 (.s a0_2), .int .i64 (.s a0_3), .int .i64 (.s a0_4), .int .i64 (.s a0_5), .int .i64 (.s a0_6), .int .i64 (.s a0_7), .int .i64 (.s a0_8), .int .i64 (.s a0_9), .int .i64 (.s a0_10), .int .i64 (.s a0_11), .int .i64 (.s a0_12), .int .i64 (.s a0_13), .int .i64 (.s a0_14), .int .i64 (.s a0_15), .int .i64 (.s a0_16), .int .i64 (.s a0_17)]] [] 0).opt r_i64.dec = table_spot_expected.f a0_0 a0_1 a0_2 a0_3 a0_4 a0_5 a0_6 a0_7 a0_8 a0_9 a0_10 a0_11 a0_12 a0_13 a0_14 a0_15 a0_16 a0_17 := by kernel_rfl
  exact calls_of named mixed t_table_spot_sends_ok.ct noL_ok ht h (by kernel_rfl) (by kernel_rfl) w fun _ _ _ _ _ hd hx => r_i64.ok hd hx
noncomputable def table_spot_expected.c : Entry := fun args _ _ => g_i64x18 args fun a0_0 a0_1 a0_2 a0_3 a0_4 a0_5 a0_6 a0_7 a0_8 a0_9 a0_10 a0_11 a0_12 a0_13 a0_14 a0_15 a0_16 a0_17 args => aN args (some { o := table_spot_expected.f a0_0 a0_1 a0_2 a0_3 a0_4 a0_5 a0_6 a0_7 a0_8 a0_9 a0_10 a0_11 a0_12 a0_13 a0_14 a0_15 a0_16 a0_17, enc := r_i64.enc })
theorem table_spot_expected.ok : EntryOK Try.prog 38 table_spot_expected.c := by
  intro args H hn c h _ r hr ρ w xs hx hrel
  unfold table_spot_expected.c at h
  obtain ⟨a0_0, a0_1, a0_2, a0_3, a0_4, a0_5, a0_6, a0_7, a0_8, a0_9, a0_10, a0_11, a0_12, a0_13, a0_14, a0_15, a0_16, a0_17, xs, args, rfl, hx, h⟩ := g_i64x18_ok h hx
  obtain ⟨rfl, h⟩ := aN_ok h hx
  cases h
  refine (table_spot_expected.calls a0_0 a0_1 a0_2 a0_3 a0_4 a0_5 a0_6 a0_7 a0_8 a0_9 a0_10 a0_11 a0_12 a0_13 a0_14 a0_15 a0_16 a0_17 r w hr).mono ?_
  rintro e w' ⟨rfl, hb⟩
  exact ⟨_, ρ, rfl, r_i64.enc_rel ρ r, ⟨rfl, hrel.below hb⟩, Eff.of_below hb⟩
noncomputable def t_table_spot_expected : List (Nat × Entry) := (38, table_spot_expected.c) :: t_table_spot_sends
theorem t_table_spot_expected_ok : TabOK Try.prog t_table_spot_expected := TabOK.cons table_spot_expected.ok t_table_spot_sends_ok
def r_i64_i64.dec : AV → Heap → Nat → Option (Int × Int)
  | .tup [x0, x1], _, _ => (dI .i64 x0).bind fun n0 => (dI .i64 x1).bind fun n1 => some (n0, n1)
  | _, _, _ => none
def r_i64_i64.enc (r : Int × Int) : AV := .tup [.int .i64 (.s r.1), .int .i64 (.s r.2)]
abbrev r_i64_i64.val (r : Int × Int) : Value := .tuple #[.int .i64 r.1, .int .i64 r.2]
theorem r_i64_i64.enc_rel (ρ : Pl) (r : Int × Int) : (r_i64_i64.enc r).rel ρ (r_i64_i64.val r) := AV.flat_rel _ rfl
theorem r_i64_i64.ok {v : AV} {H : Heap} {hn : Nat} {r : Int × Int} {ρ : Pl} {x : Value} (h : r_i64_i64.dec v H hn = some r) (hx : v.rel ρ x) : x = r_i64_i64.val r := by
  unfold r_i64_i64.dec at h
  split at h
  · obtain ⟨n0, e0, h⟩ := Option.bind_eq_some_iff.1 h
    obtain ⟨n1, e1, h⟩ := Option.bind_eq_some_iff.1 h
    cases h
    obtain ⟨z, hx, rfl⟩ := hx
    obtain ⟨y1, y2, hy1, hx, rfl⟩ := hx
    obtain rfl := dI_ok e0 hy1
    obtain ⟨y3, y4, hy3, hx, rfl⟩ := hx
    obtain rfl := dI_ok e1 hy3
    obtain rfl := (show _ = [] from hx)
    rfl
  · cases h
def table_Begin.f (a0_0 : Int) (a0_1 : Int) (a0_2 : Int) (a0_3 : Int) (a0_4 : Int) (a0_5 : Int) (a0_6 : Int) (a0_7 : Int) (a0_8 : Int) (a0_9 : Int) (a0_10 : Int) (a0_11 : Int) (a0_12 : Int) (a0_13 : Int) (a0_14 : Int) (a0_15 : Int) (a1_0 : Int) (a1_1 : Int) : Option (Int × Int) :=
  ((table_has.f a0_0 a0_1 a0_2 a0_3 a0_4 a0_5 a0_6 a0_7 a0_8 a0_9 a0_10 a0_11 a0_12 a0_13 a0_14 a0_15 a1_0 a1_1).bind fun t0 => (if (!t0) = true then some (0, 90) else ((table_spot_begin.f a0_0 a0_1 a0_2 a0_3 a0_4 a0_5 a0_6 a0_7 a0_8 a0_9 a0_10 a0_11 a0_12 a0_13 a0_14 a0_15 a1_0 a1_1).bind fun t1 => some (t1, 0))))
set_option maxRecDepth 100000 in
theorem table_Begin.calls (a0_0 : Int) (a0_1 : Int) (a0_2 : Int) (a0_3 : Int) (a0_4 : Int) (a0_5 : Int) (a0_6 : Int) (a0_7 : Int) (a0_8 : Int) (a0_9 : Int) (a0_10 : Int) (a0_11 : Int) (a0_12 : Int) (a0_13 : Int) (a0_14 : Int) (a0_15 : Int) (a1_0 : Int) (a1_1 : Int) (r1 : Int) (r2 : Int) (w : World) (h : table_Begin.f a0_0 a0_1 a0_2 a0_3 a0_4 a0_5 a0_6 a0_7 a0_8 a0_9 a0_10 a0_11 a0_12 a0_13 a0_14 a0_15 a1_0 a1_1 = some (r1, r2)) :
    Calls Try.prog 26 #[.agg #[.int .i64 a0_0, .int .i64 a0_1, .int .i64 a0_2, .int .i64 a0_3, .int .i64 a0_4, .int .i64 a0_5, .int .i64 a0_6, .int .i64 a0_7, .int .i64 a0_8, .int .i64 a0_9, .int .i64 a0_10, .int .i64 a0_11, .int .i64 a0_12, .int .i64 a0_13, .int .i64 a0_14, .int .i64 a0_15], .agg #[.int .i64 a1_0, .int .i64 a1_1]] w fun e w' => e = .returned (.tuple #[.int .i64 r1, .int .i64 r2]) ∧ Below w.heap.size w w' := by
  have ht : (walk Try.prog (ctOf t_table_spot_expected) noL 100000 26 [.agg [.int .i64 (.s a0_0), .int .i64 (.s a0_1), .int .i64 (.s a0_2), .int .i64 (.s a0_3), .int .i64 (.s a0_4), .int .i64 (.s a0_5), .int .i64 (.s a0_6), .int .i64 (.s a0_7), .int .i64 (.s a0_8), .int .i64 (.s a0_9), .int .i64 (.s a0_10), .int .i64 (.s a0_11), .int .i64 (.s a0_12), .int .i64 (.s a0_13), .int .i64 (.s a0_14), .int .i64 (.s a0_15)], .agg [.int .i64 (.s a1_0), .int .i64 (.s a1_1)]] [] 0).opt r_i64_i64.dec = table_Begin.f a0_0 a0_1 a0_2 a0_3 a0_4 a0_5 a0_6 a0_7 a0_8 a0_9 a0_10 a0_11 a0_12 a0_13 a0_14 a0_15 a1_0 a1_1 := by kernel_rfl
  exact calls_of named mixed t_table_spot_expected_ok.ct noL_ok ht h (by kernel_rfl) (by kernel_rfl) w fun _ _ _ _ _ hd hx => r_i64_i64.ok hd hx
noncomputable def table_Begin.c : Entry := fun args _ _ => g_i64x16 args fun a0_0 a0_1 a0_2 a0_3 a0_4 a0_5 a0_6 a0_7 a0_8 a0_9 a0_10 a0_11 a0_12 a0_13 a0_14 a0_15 args => g_i64x2 args fun a1_0 a1_1 args => aN args (some { o := table_Begin.f a0_0 a0_1 a0_2 a0_3 a0_4 a0_5 a0_6 a0_7 a0_8 a0_9 a0_10 a0_11 a0_12 a0_13 a0_14 a0_15 a1_0 a1_1, enc := r_i64_i64.enc })
theorem table_Begin.ok : EntryOK Try.prog 26 table_Begin.c := by
  intro args H hn c h _ r hr ρ w xs hx hrel
  unfold table_Begin.c at h
  obtain ⟨a0_0, a0_1, a0_2, a0_3, a0_4, a0_5, a0_6, a0_7, a0_8, a0_9, a0_10, a0_11, a0_12, a0_13, a0_14, a0_15, xs, args, rfl, hx, h⟩ := g_i64x16_ok h hx
  obtain ⟨a1_0, a1_1, xs, args, rfl, hx, h⟩ := g_i64x2_ok h hx
  obtain ⟨rfl, h⟩ := aN_ok h hx
  cases h
  obtain ⟨r1, r2⟩ := r
  refine (table_Begin.calls a0_0 a0_1 a0_2 a0_3 a0_4 a0_5 a0_6 a0_7 a0_8 a0_9 a0_10 a0_11 a0_12 a0_13 a0_14 a0_15 a1_0 a1_1 r1 r2 w hr).mono ?_
  rintro e w' ⟨rfl, hb⟩
  exact ⟨_, ρ, rfl, r_i64_i64.enc_rel ρ (r1, r2), ⟨rfl, hrel.below hb⟩, Eff.of_below hb⟩
noncomputable def t_table_Begin : List (Nat × Entry) := (26, table_Begin.c) :: t_table_spot_expected
theorem t_table_Begin_ok : TabOK Try.prog t_table_Begin := TabOK.cons table_Begin.ok t_table_spot_expected_ok
def table_Sends.f (a0_0 : Int) (a0_1 : Int) (a0_2 : Int) (a0_3 : Int) (a0_4 : Int) (a0_5 : Int) (a0_6 : Int) (a0_7 : Int) (a0_8 : Int) (a0_9 : Int) (a0_10 : Int) (a0_11 : Int) (a0_12 : Int) (a0_13 : Int) (a0_14 : Int) (a0_15 : Int) (a1_0 : Int) (a1_1 : Int) : Option (Int × Int) :=
  ((table_has.f a0_0 a0_1 a0_2 a0_3 a0_4 a0_5 a0_6 a0_7 a0_8 a0_9 a0_10 a0_11 a0_12 a0_13 a0_14 a0_15 a1_0 a1_1).bind fun t0 => (if (!t0) = true then some (0, 90) else ((table_spot_sends.f a0_0 a0_1 a0_2 a0_3 a0_4 a0_5 a0_6 a0_7 a0_8 a0_9 a0_10 a0_11 a0_12 a0_13 a0_14 a0_15 a1_0 a1_1).bind fun t1 => some (t1, 0))))
set_option maxRecDepth 100000 in
theorem table_Sends.calls (a0_0 : Int) (a0_1 : Int) (a0_2 : Int) (a0_3 : Int) (a0_4 : Int) (a0_5 : Int) (a0_6 : Int) (a0_7 : Int) (a0_8 : Int) (a0_9 : Int) (a0_10 : Int) (a0_11 : Int) (a0_12 : Int) (a0_13 : Int) (a0_14 : Int) (a0_15 : Int) (a1_0 : Int) (a1_1 : Int) (r1 : Int) (r2 : Int) (w : World) (h : table_Sends.f a0_0 a0_1 a0_2 a0_3 a0_4 a0_5 a0_6 a0_7 a0_8 a0_9 a0_10 a0_11 a0_12 a0_13 a0_14 a0_15 a1_0 a1_1 = some (r1, r2)) :
    Calls Try.prog 13 #[.agg #[.int .i64 a0_0, .int .i64 a0_1, .int .i64 a0_2, .int .i64 a0_3, .int .i64 a0_4, .int .i64 a0_5, .int .i64 a0_6, .int .i64 a0_7, .int .i64 a0_8, .int .i64 a0_9, .int .i64 a0_10, .int .i64 a0_11, .int .i64 a0_12, .int .i64 a0_13, .int .i64 a0_14, .int .i64 a0_15], .agg #[.int .i64 a1_0, .int .i64 a1_1]] w fun e w' => e = .returned (.tuple #[.int .i64 r1, .int .i64 r2]) ∧ Below w.heap.size w w' := by
  have ht : (walk Try.prog (ctOf t_table_Begin) noL 100000 13 [.agg [.int .i64 (.s a0_0), .int .i64 (.s a0_1), .int .i64 (.s a0_2), .int .i64 (.s a0_3), .int .i64 (.s a0_4), .int .i64 (.s a0_5), .int .i64 (.s a0_6), .int .i64 (.s a0_7), .int .i64 (.s a0_8), .int .i64 (.s a0_9), .int .i64 (.s a0_10), .int .i64 (.s a0_11), .int .i64 (.s a0_12), .int .i64 (.s a0_13), .int .i64 (.s a0_14), .int .i64 (.s a0_15)], .agg [.int .i64 (.s a1_0), .int .i64 (.s a1_1)]] [] 0).opt r_i64_i64.dec = table_Sends.f a0_0 a0_1 a0_2 a0_3 a0_4 a0_5 a0_6 a0_7 a0_8 a0_9 a0_10 a0_11 a0_12 a0_13 a0_14 a0_15 a1_0 a1_1 := by kernel_rfl
  exact calls_of named mixed t_table_Begin_ok.ct noL_ok ht h (by kernel_rfl) (by kernel_rfl) w fun _ _ _ _ _ hd hx => r_i64_i64.ok hd hx
noncomputable def table_Sends.c : Entry := fun args _ _ => g_i64x16 args fun a0_0 a0_1 a0_2 a0_3 a0_4 a0_5 a0_6 a0_7 a0_8 a0_9 a0_10 a0_11 a0_12 a0_13 a0_14 a0_15 args => g_i64x2 args fun a1_0 a1_1 args => aN args (some { o := table_Sends.f a0_0 a0_1 a0_2 a0_3 a0_4 a0_5 a0_6 a0_7 a0_8 a0_9 a0_10 a0_11 a0_12 a0_13 a0_14 a0_15 a1_0 a1_1, enc := r_i64_i64.enc })
theorem table_Sends.ok : EntryOK Try.prog 13 table_Sends.c := by
  intro args H hn c h _ r hr ρ w xs hx hrel
  unfold table_Sends.c at h
  obtain ⟨a0_0, a0_1, a0_2, a0_3, a0_4, a0_5, a0_6, a0_7, a0_8, a0_9, a0_10, a0_11, a0_12, a0_13, a0_14, a0_15, xs, args, rfl, hx, h⟩ := g_i64x16_ok h hx
  obtain ⟨a1_0, a1_1, xs, args, rfl, hx, h⟩ := g_i64x2_ok h hx
  obtain ⟨rfl, h⟩ := aN_ok h hx
  cases h
  obtain ⟨r1, r2⟩ := r
  refine (table_Sends.calls a0_0 a0_1 a0_2 a0_3 a0_4 a0_5 a0_6 a0_7 a0_8 a0_9 a0_10 a0_11 a0_12 a0_13 a0_14 a0_15 a1_0 a1_1 r1 r2 w hr).mono ?_
  rintro e w' ⟨rfl, hb⟩
  exact ⟨_, ρ, rfl, r_i64_i64.enc_rel ρ (r1, r2), ⟨rfl, hrel.below hb⟩, Eff.of_below hb⟩
noncomputable def t_table_Sends : List (Nat × Entry) := (13, table_Sends.c) :: t_table_Begin
theorem t_table_Sends_ok : TabOK Try.prog t_table_Sends := TabOK.cons table_Sends.ok t_table_Begin_ok
def r_i64_i64_i64_i64.dec : AV → Heap → Nat → Option (Int × Int × Int × Int)
  | .tup [x0, x1, x2, x3], _, _ => (dI .i64 x0).bind fun n0 => (dI .i64 x1).bind fun n1 => (dI .i64 x2).bind fun n2 => (dI .i64 x3).bind fun n3 => some (n0, n1, n2, n3)
  | _, _, _ => none
def r_i64_i64_i64_i64.enc (r : Int × Int × Int × Int) : AV := .tup [.int .i64 (.s r.1), .int .i64 (.s r.2.1), .int .i64 (.s r.2.2.1), .int .i64 (.s r.2.2.2)]
abbrev r_i64_i64_i64_i64.val (r : Int × Int × Int × Int) : Value := .tuple #[.int .i64 r.1, .int .i64 r.2.1, .int .i64 r.2.2.1, .int .i64 r.2.2.2]
theorem r_i64_i64_i64_i64.enc_rel (ρ : Pl) (r : Int × Int × Int × Int) : (r_i64_i64_i64_i64.enc r).rel ρ (r_i64_i64_i64_i64.val r) := AV.flat_rel _ rfl
theorem r_i64_i64_i64_i64.ok {v : AV} {H : Heap} {hn : Nat} {r : Int × Int × Int × Int} {ρ : Pl} {x : Value} (h : r_i64_i64_i64_i64.dec v H hn = some r) (hx : v.rel ρ x) : x = r_i64_i64_i64_i64.val r := by
  unfold r_i64_i64_i64_i64.dec at h
  split at h
  · obtain ⟨n0, e0, h⟩ := Option.bind_eq_some_iff.1 h
    obtain ⟨n1, e1, h⟩ := Option.bind_eq_some_iff.1 h
    obtain ⟨n2, e2, h⟩ := Option.bind_eq_some_iff.1 h
    obtain ⟨n3, e3, h⟩ := Option.bind_eq_some_iff.1 h
    cases h
    obtain ⟨z, hx, rfl⟩ := hx
    obtain ⟨y1, y2, hy1, hx, rfl⟩ := hx
    obtain rfl := dI_ok e0 hy1
    obtain ⟨y3, y4, hy3, hx, rfl⟩ := hx
    obtain rfl := dI_ok e1 hy3
    obtain ⟨y5, y6, hy5, hx, rfl⟩ := hx
    obtain rfl := dI_ok e2 hy5
    obtain ⟨y7, y8, hy7, hx, rfl⟩ := hx
    obtain rfl := dI_ok e3 hy7
    obtain rfl := (show _ = [] from hx)
    rfl
  · cases h
def table_Expected.f (a0_0 : Int) (a0_1 : Int) (a0_2 : Int) (a0_3 : Int) (a0_4 : Int) (a0_5 : Int) (a0_6 : Int) (a0_7 : Int) (a0_8 : Int) (a0_9 : Int) (a0_10 : Int) (a0_11 : Int) (a0_12 : Int) (a0_13 : Int) (a0_14 : Int) (a0_15 : Int) (a1_0 : Int) (a1_1 : Int) : Option (Int × Int × Int × Int) :=
  ((table_has.f a0_0 a0_1 a0_2 a0_3 a0_4 a0_5 a0_6 a0_7 a0_8 a0_9 a0_10 a0_11 a0_12 a0_13 a0_14 a0_15 a1_0 a1_1).bind fun t0 => (if (!t0) = true then some (0, 0, 0, 90) else ((table_spot_expected.f a0_0 a0_1 a0_2 a0_3 a0_4 a0_5 a0_6 a0_7 a0_8 a0_9 a0_10 a0_11 a0_12 a0_13 a0_14 a0_15 a1_0 a1_1).bind fun t1 => some (t1, wrap64 (t1 - a0_4), wrap64 (t1 + a0_4), 0))))
set_option maxRecDepth 100000 in
theorem table_Expected.calls (a0_0 : Int) (a0_1 : Int) (a0_2 : Int) (a0_3 : Int) (a0_4 : Int) (a0_5 : Int) (a0_6 : Int) (a0_7 : Int) (a0_8 : Int) (a0_9 : Int) (a0_10 : Int) (a0_11 : Int) (a0_12 : Int) (a0_13 : Int) (a0_14 : Int) (a0_15 : Int) (a1_0 : Int) (a1_1 : Int) (r1 : Int) (r2 : Int) (r3 : Int) (r4 : Int) (w : World) (h : table_Expected.f a0_0 a0_1 a0_2 a0_3 a0_4 a0_5 a0_6 a0_7 a0_8 a0_9 a0_10 a0_11 a0_12 a0_13 a0_14 a0_15 a1_0 a1_1 = some (r1, r2, r3, r4)) :
    Calls Try.prog 22 #[.agg #[.int .i64 a0_0, .int .i64 a0_1, .int .i64 a0_2, .int .i64 a0_3, .int .i64 a0_4, .int .i64 a0_5, .int .i64 a0_6, .int .i64 a0_7, .int .i64 a0_8, .int .i64 a0_9, .int .i64 a0_10, .int .i64 a0_11, .int .i64 a0_12, .int .i64 a0_13, .int .i64 a0_14, .int .i64 a0_15], .agg #[.int .i64 a1_0, .int .i64 a1_1]] w fun e w' => e = .returned (.tuple #[.int .i64 r1, .int .i64 r2, .int .i64 r3, .int .i64 r4]) ∧ Below w.heap.size w w' := by
  have ht : (walk Try.prog (ctOf t_table_Sends) noL 100000 22 [.agg [.int .i64 (.s a0_0), .int .i64 (.s a0_1), .int .i64 (.s a0_2), .int .i64 (.s a0_3), .int .i64 (.s a0_4), .int .i64 (.s a0_5), .int .i64 (.s a0_6), .int .i64 (.s a0_7), .int .i64 (.s a0_8), .int .i64 (.s a0_9), .int .i64 (.s a0_10), .int .i64 (.s a0_11), .int .i64 (.s a0_12), .int .i64 (.s a0_13), .int .i64 (.s a0_14), .int .i64 (.s a0_15)], .agg [.int .i64 (.s a1_0), .int .i64 (.s a1_1)]] [] 0).opt r_i64_i64_i64_i64.dec = table_Expected.f a0_0 a0_1 a0_2 a0_3 a0_4 a0_5 a0_6 a0_7 a0_8 a0_9 a0_10 a0_11 a0_12 a0_13 a0_14 a0_15 a1_0 a1_1 := by kernel_rfl
  exact calls_of named mixed t_table_Sends_ok.ct noL_ok ht h (by kernel_rfl) (by kernel_rfl) w fun _ _ _ _ _ hd hx => r_i64_i64_i64_i64.ok hd hx
noncomputable def table_Expected.c : Entry := fun args _ _ => g_i64x16 args fun a0_0 a0_1 a0_2 a0_3 a0_4 a0_5 a0_6 a0_7 a0_8 a0_9 a0_10 a0_11 a0_12 a0_13 a0_14 a0_15 args => g_i64x2 args fun a1_0 a1_1 args => aN args (some { o := table_Expected.f a0_0 a0_1 a0_2 a0_3 a0_4 a0_5 a0_6 a0_7 a0_8 a0_9 a0_10 a0_11 a0_12 a0_13 a0_14 a0_15 a1_0 a1_1, enc := r_i64_i64_i64_i64.enc })
theorem table_Expected.ok : EntryOK Try.prog 22 table_Expected.c := by
  intro args H hn c h _ r hr ρ w xs hx hrel
  unfold table_Expected.c at h
  obtain ⟨a0_0, a0_1, a0_2, a0_3, a0_4, a0_5, a0_6, a0_7, a0_8, a0_9, a0_10, a0_11, a0_12, a0_13, a0_14, a0_15, xs, args, rfl, hx, h⟩ := g_i64x16_ok h hx
  obtain ⟨a1_0, a1_1, xs, args, rfl, hx, h⟩ := g_i64x2_ok h hx
  obtain ⟨rfl, h⟩ := aN_ok h hx
  cases h
  obtain ⟨r1, r2, r3, r4⟩ := r
  refine (table_Expected.calls a0_0 a0_1 a0_2 a0_3 a0_4 a0_5 a0_6 a0_7 a0_8 a0_9 a0_10 a0_11 a0_12 a0_13 a0_14 a0_15 a1_0 a1_1 r1 r2 r3 r4 w hr).mono ?_
  rintro e w' ⟨rfl, hb⟩
  exact ⟨_, ρ, rfl, r_i64_i64_i64_i64.enc_rel ρ (r1, r2, r3, r4), ⟨rfl, hrel.below hb⟩, Eff.of_below hb⟩
noncomputable def t_table_Expected : List (Nat × Entry) := (22, table_Expected.c) :: t_table_Sends
theorem t_table_Expected_ok : TabOK Try.prog t_table_Expected := TabOK.cons table_Expected.ok t_table_Sends_ok
def r_i64x2_i64.dec : AV → Heap → Nat → Option (Int × Int × Int)
  | .tup [.agg [x0, x1], x2], _, _ => (dI .i64 x0).bind fun n0 => (dI .i64 x1).bind fun n1 => (dI .i64 x2).bind fun n2 => some (n0, n1, n2)
  | _, _, _ => none
def r_i64x2_i64.enc (r : Int × Int × Int) : AV := .tup [.agg [.int .i64 (.s r.1), .int .i64 (.s r.2.1)], .int .i64 (.s r.2.2)]
abbrev r_i64x2_i64.val (r : Int × Int × Int) : Value := .tuple #[.agg #[.int .i64 r.1, .int .i64 r.2.1], .int .i64 r.2.2]
theorem r_i64x2_i64.enc_rel (ρ : Pl) (r : Int × Int × Int) : (r_i64x2_i64.enc r).rel ρ (r_i64x2_i64.val r) := AV.flat_rel _ rfl
theorem r_i64x2_i64.ok {v : AV} {H : Heap} {hn : Nat} {r : Int × Int × Int} {ρ : Pl} {x : Value} (h : r_i64x2_i64.dec v H hn = some r) (hx : v.rel ρ x) : x = r_i64x2_i64.val r := by
  unfold r_i64x2_i64.dec at h
  split at h
  · obtain ⟨n0, e0, h⟩ := Option.bind_eq_some_iff.1 h
    obtain ⟨n1, e1, h⟩ := Option.bind_eq_some_iff.1 h
    obtain ⟨n2, e2, h⟩ := Option.bind_eq_some_iff.1 h
    cases h
    obtain ⟨z, hx, rfl⟩ := hx
    obtain ⟨y1, y2, hy1, hx, rfl⟩ := hx
    obtain ⟨y3, hy1, rfl⟩ := hy1
    obtain ⟨y4, y5, hy4, hy1, rfl⟩ := hy1
    obtain rfl := dI_ok e0 hy4
    obtain ⟨y6, y7, hy6, hy1, rfl⟩ := hy1
    obtain rfl := dI_ok e1 hy6
    obtain rfl := (show _ = [] from hy1)
    obtain ⟨y8, y9, hy8, hx, rfl⟩ := hx
    obtain rfl := dI_ok e2 hy8
    obtain rfl := (show _ = [] from hx)
    rfl
  · cases h
def table_Of.f (a0_0 : Int) (a0_1 : Int) (a0_2 : Int) (a0_3 : Int) (a0_4 : Int) (a0_5 : Int) (a0_6 : Int) (a0_7 : Int) (a0_8 : Int) (a0_9 : Int) (a0_10 : Int) (a0_11 : Int) (a0_12 : Int) (a0_13 : Int) (a0_14 : Int) (a0_15 : Int) (a1 : Int) : Option (Int × Int × Int) :=
  ((plan_Check.f a0_0 a0_1 a0_2 a0_3 a0_4 a0_5 a0_6 a0_7 a0_8 a0_9 a0_10 a0_11 a0_12 a0_13 a0_14 a0_15).bind fun t0 => (if t0 ≠ 0 then some (0, 0, 90) else (if a1 < 0 then some (0, 0, 90) else ((plan_Round.f a0_0 a0_1 a0_2 a0_3 a0_4 a0_5 a0_6 a0_7 a0_8 a0_9 a0_10 a0_11 a0_12 a0_13 a0_14 a0_15).bind fun t1 => (if a1 > wrap64 (2147483647 * t1) then some (0, 0, 90) else (if a0_2 = 0 then none else (if a0_0 = 0 then none else (if a0_0 = 0 then none else some (wrap64 ((wrap64 (a1.tdiv a0_2)).tdiv a0_0), (wrap64 (a1.tdiv a0_2)).tmod a0_0, 0)))))))))
set_option maxRecDepth 100000 in
theorem table_Of.calls (a0_0 : Int) (a0_1 : Int) (a0_2 : Int) (a0_3 : Int) (a0_4 : Int) (a0_5 : Int) (a0_6 : Int) (a0_7 : Int) (a0_8 : Int) (a0_9 : Int) (a0_10 : Int) (a0_11 : Int) (a0_12 : Int) (a0_13 : Int) (a0_14 : Int) (a0_15 : Int) (a1 : Int) (r1 : Int) (r2 : Int) (r3 : Int) (w : World) (h : table_Of.f a0_0 a0_1 a0_2 a0_3 a0_4 a0_5 a0_6 a0_7 a0_8 a0_9 a0_10 a0_11 a0_12 a0_13 a0_14 a0_15 a1 = some (r1, r2, r3)) :
    Calls Try.prog 30 #[.agg #[.int .i64 a0_0, .int .i64 a0_1, .int .i64 a0_2, .int .i64 a0_3, .int .i64 a0_4, .int .i64 a0_5, .int .i64 a0_6, .int .i64 a0_7, .int .i64 a0_8, .int .i64 a0_9, .int .i64 a0_10, .int .i64 a0_11, .int .i64 a0_12, .int .i64 a0_13, .int .i64 a0_14, .int .i64 a0_15], .int .i64 a1] w fun e w' => e = .returned (.tuple #[.agg #[.int .i64 r1, .int .i64 r2], .int .i64 r3]) ∧ Below w.heap.size w w' := by
  have ht : (walk Try.prog (ctOf t_table_Expected) noL 100000 30 [.agg [.int .i64 (.s a0_0), .int .i64 (.s a0_1), .int .i64 (.s a0_2), .int .i64 (.s a0_3), .int .i64 (.s a0_4), .int .i64 (.s a0_5), .int .i64 (.s a0_6), .int .i64 (.s a0_7), .int .i64 (.s a0_8), .int .i64 (.s a0_9), .int .i64 (.s a0_10), .int .i64 (.s a0_11), .int .i64 (.s a0_12), .int .i64 (.s a0_13), .int .i64 (.s a0_14), .int .i64 (.s a0_15)], .int .i64 (.s a1)] [] 0).opt r_i64x2_i64.dec = table_Of.f a0_0 a0_1 a0_2 a0_3 a0_4 a0_5 a0_6 a0_7 a0_8 a0_9 a0_10 a0_11 a0_12 a0_13 a0_14 a0_15 a1 := by kernel_rfl
  exact calls_of named mixed t_table_Expected_ok.ct noL_ok ht h (by kernel_rfl) (by kernel_rfl) w fun _ _ _ _ _ hd hx => r_i64x2_i64.ok hd hx
noncomputable def table_Of.c : Entry := fun args _ _ => g_i64x16 args fun a0_0 a0_1 a0_2 a0_3 a0_4 a0_5 a0_6 a0_7 a0_8 a0_9 a0_10 a0_11 a0_12 a0_13 a0_14 a0_15 args => aI .i64 args fun a1 args => aN args (some { o := table_Of.f a0_0 a0_1 a0_2 a0_3 a0_4 a0_5 a0_6 a0_7 a0_8 a0_9 a0_10 a0_11 a0_12 a0_13 a0_14 a0_15 a1, enc := r_i64x2_i64.enc })
theorem table_Of.ok : EntryOK Try.prog 30 table_Of.c := by
  intro args H hn c h _ r hr ρ w xs hx hrel
  unfold table_Of.c at h
  obtain ⟨a0_0, a0_1, a0_2, a0_3, a0_4, a0_5, a0_6, a0_7, a0_8, a0_9, a0_10, a0_11, a0_12, a0_13, a0_14, a0_15, xs, args, rfl, hx, h⟩ := g_i64x16_ok h hx
  obtain ⟨a1, xs, args, rfl, hx, h⟩ := aI_ok h hx
  obtain ⟨rfl, h⟩ := aN_ok h hx
  cases h
  obtain ⟨r1, r2, r3⟩ := r
  refine (table_Of.calls a0_0 a0_1 a0_2 a0_3 a0_4 a0_5 a0_6 a0_7 a0_8 a0_9 a0_10 a0_11 a0_12 a0_13 a0_14 a0_15 a1 r1 r2 r3 w hr).mono ?_
  rintro e w' ⟨rfl, hb⟩
  exact ⟨_, ρ, rfl, r_i64x2_i64.enc_rel ρ (r1, r2, r3), ⟨rfl, hrel.below hb⟩, Eff.of_below hb⟩
noncomputable def t_table_Of : List (Nat × Entry) := (30, table_Of.c) :: t_table_Expected
theorem t_table_Of_ok : TabOK Try.prog t_table_Of := TabOK.cons table_Of.ok t_table_Expected_ok
def table_Next.f (a0_0 : Int) (a0_1 : Int) (a0_2 : Int) (a0_3 : Int) (a0_4 : Int) (a0_5 : Int) (a0_6 : Int) (a0_7 : Int) (a0_8 : Int) (a0_9 : Int) (a0_10 : Int) (a0_11 : Int) (a0_12 : Int) (a0_13 : Int) (a0_14 : Int) (a0_15 : Int) (a1_0 : Int) (a1_1 : Int) : Option (Int × Int × Int) :=
  ((table_has.f a0_0 a0_1 a0_2 a0_3 a0_4 a0_5 a0_6 a0_7 a0_8 a0_9 a0_10 a0_11 a0_12 a0_13 a0_14 a0_15 a1_0 a1_1).bind fun t0 => (if (!t0) = true then some (0, 0, 90) else (if wrap64 (a1_1 + 1) = a0_0 then ((table_has.f a0_0 a0_1 a0_2 a0_3 a0_4 a0_5 a0_6 a0_7 a0_8 a0_9 a0_10 a0_11 a0_12 a0_13 a0_14 a0_15 (wrap64 (a1_0 + 1)) 0).bind fun t1 => (if (!t1) = true then some (0, 0, 90) else some (wrap64 (a1_0 + 1), 0, 0))) else ((table_has.f a0_0 a0_1 a0_2 a0_3 a0_4 a0_5 a0_6 a0_7 a0_8 a0_9 a0_10 a0_11 a0_12 a0_13 a0_14 a0_15 a1_0 (wrap64 (a1_1 + 1))).bind fun t1 => (if (!t1) = true then some (0, 0, 90) else some (a1_0, wrap64 (a1_1 + 1), 0))))))
set_option maxRecDepth 100000 in
theorem table_Next.calls (a0_0 : Int) (a0_1 : Int) (a0_2 : Int) (a0_3 : Int) (a0_4 : Int) (a0_5 : Int) (a0_6 : Int) (a0_7 : Int) (a0_8 : Int) (a0_9 : Int) (a0_10 : Int) (a0_11 : Int) (a0_12 : Int) (a0_13 : Int) (a0_14 : Int) (a0_15 : Int) (a1_0 : Int) (a1_1 : Int) (r1 : Int) (r2 : Int) (r3 : Int) (w : World) (h : table_Next.f a0_0 a0_1 a0_2 a0_3 a0_4 a0_5 a0_6 a0_7 a0_8 a0_9 a0_10 a0_11 a0_12 a0_13 a0_14 a0_15 a1_0 a1_1 = some (r1, r2, r3)) :
    Calls Try.prog 10 #[.agg #[.int .i64 a0_0, .int .i64 a0_1, .int .i64 a0_2, .int .i64 a0_3, .int .i64 a0_4, .int .i64 a0_5, .int .i64 a0_6, .int .i64 a0_7, .int .i64 a0_8, .int .i64 a0_9, .int .i64 a0_10, .int .i64 a0_11, .int .i64 a0_12, .int .i64 a0_13, .int .i64 a0_14, .int .i64 a0_15], .agg #[.int .i64 a1_0, .int .i64 a1_1]] w fun e w' => e = .returned (.tuple #[.agg #[.int .i64 r1, .int .i64 r2], .int .i64 r3]) ∧ Below w.heap.size w w' := by
  have ht : (walk Try.prog (ctOf t_table_Of) noL 100000 10 [.agg [.int .i64 (.s a0_0), .int .i64 (.s a0_1), .int .i64 (.s a0_2), .int .i64 (.s a0_3), .int .i64 (.s a0_4), .int .i64 (.s a0_5), .int .i64 (.s a0_6), .int .i64 (.s a0_7), .int .i64 (.s a0_8), .int .i64 (.s a0_9), .int .i64 (.s a0_10), .int .i64 (.s a0_11), .int .i64 (.s a0_12), .int .i64 (.s a0_13), .int .i64 (.s a0_14), .int .i64 (.s a0_15)], .agg [.int .i64 (.s a1_0), .int .i64 (.s a1_1)]] [] 0).opt r_i64x2_i64.dec = table_Next.f a0_0 a0_1 a0_2 a0_3 a0_4 a0_5 a0_6 a0_7 a0_8 a0_9 a0_10 a0_11 a0_12 a0_13 a0_14 a0_15 a1_0 a1_1 := by kernel_rfl
  exact calls_of named mixed t_table_Of_ok.ct noL_ok ht h (by kernel_rfl) (by kernel_rfl) w fun _ _ _ _ _ hd hx => r_i64x2_i64.ok hd hx
noncomputable def table_Next.c : Entry := fun args _ _ => g_i64x16 args fun a0_0 a0_1 a0_2 a0_3 a0_4 a0_5 a0_6 a0_7 a0_8 a0_9 a0_10 a0_11 a0_12 a0_13 a0_14 a0_15 args => g_i64x2 args fun a1_0 a1_1 args => aN args (some { o := table_Next.f a0_0 a0_1 a0_2 a0_3 a0_4 a0_5 a0_6 a0_7 a0_8 a0_9 a0_10 a0_11 a0_12 a0_13 a0_14 a0_15 a1_0 a1_1, enc := r_i64x2_i64.enc })
theorem table_Next.ok : EntryOK Try.prog 10 table_Next.c := by
  intro args H hn c h _ r hr ρ w xs hx hrel
  unfold table_Next.c at h
  obtain ⟨a0_0, a0_1, a0_2, a0_3, a0_4, a0_5, a0_6, a0_7, a0_8, a0_9, a0_10, a0_11, a0_12, a0_13, a0_14, a0_15, xs, args, rfl, hx, h⟩ := g_i64x16_ok h hx
  obtain ⟨a1_0, a1_1, xs, args, rfl, hx, h⟩ := g_i64x2_ok h hx
  obtain ⟨rfl, h⟩ := aN_ok h hx
  cases h
  obtain ⟨r1, r2, r3⟩ := r
  refine (table_Next.calls a0_0 a0_1 a0_2 a0_3 a0_4 a0_5 a0_6 a0_7 a0_8 a0_9 a0_10 a0_11 a0_12 a0_13 a0_14 a0_15 a1_0 a1_1 r1 r2 r3 w hr).mono ?_
  rintro e w' ⟨rfl, hb⟩
  exact ⟨_, ρ, rfl, r_i64x2_i64.enc_rel ρ (r1, r2, r3), ⟨rfl, hrel.below hb⟩, Eff.of_below hb⟩
noncomputable def t_table_Next : List (Nat × Entry) := (10, table_Next.c) :: t_table_Of
theorem t_table_Next_ok : TabOK Try.prog t_table_Next := TabOK.cons table_Next.ok t_table_Of_ok
def table_Middle.f (a0_0 : Int) (a0_1 : Int) (a0_2 : Int) (a0_3 : Int) (a0_4 : Int) (a0_5 : Int) (a0_6 : Int) (a0_7 : Int) (a0_8 : Int) (a0_9 : Int) (a0_10 : Int) (a0_11 : Int) (a0_12 : Int) (a0_13 : Int) (a0_14 : Int) (a0_15 : Int) : Option Int :=
  ((plan_Check.f a0_0 a0_1 a0_2 a0_3 a0_4 a0_5 a0_6 a0_7 a0_8 a0_9 a0_10 a0_11 a0_12 a0_13 a0_14 a0_15).bind fun t0 => (if t0 ≠ 0 then some 0 else ((table_middle.f a0_0 a0_1 a0_2 a0_3 a0_4 a0_5 a0_6 a0_7 a0_8 a0_9 a0_10 a0_11 a0_12 a0_13 a0_14 a0_15).bind fun t1 => some t1)))
set_option maxRecDepth 100000 in
theorem table_Middle.calls (a0_0 : Int) (a0_1 : Int) (a0_2 : Int) (a0_3 : Int) (a0_4 : Int) (a0_5 : Int) (a0_6 : Int) (a0_7 : Int) (a0_8 : Int) (a0_9 : Int) (a0_10 : Int) (a0_11 : Int) (a0_12 : Int) (a0_13 : Int) (a0_14 : Int) (a0_15 : Int) (r : Int) (w : World) (h : table_Middle.f a0_0 a0_1 a0_2 a0_3 a0_4 a0_5 a0_6 a0_7 a0_8 a0_9 a0_10 a0_11 a0_12 a0_13 a0_14 a0_15 = some r) :
    Calls Try.prog 15 #[.agg #[.int .i64 a0_0, .int .i64 a0_1, .int .i64 a0_2, .int .i64 a0_3, .int .i64 a0_4, .int .i64 a0_5, .int .i64 a0_6, .int .i64 a0_7, .int .i64 a0_8, .int .i64 a0_9, .int .i64 a0_10, .int .i64 a0_11, .int .i64 a0_12, .int .i64 a0_13, .int .i64 a0_14, .int .i64 a0_15]] w fun e w' => e = .returned (.int .i64 r) ∧ Below w.heap.size w w' := by
  have ht : (walk Try.prog (ctOf t_table_Next) noL 100000 15 [.agg [.int .i64 (.s a0_0), .int .i64 (.s a0_1), .int .i64 (.s a0_2), .int .i64 (.s a0_3), .int .i64 (.s a0_4), .int .i64 (.s a0_5), .int .i64 (.s a0_6), .int .i64 (.s a0_7), .int .i64 (.s a0_8), .int .i64 (.s a0_9), .int .i64 (.s a0_10), .int .i64 (.s a0_11), .int .i64 (.s a0_12), .int .i64 (.s a0_13), .int .i64 (.s a0_14), .int .i64 (.s a0_15)]] [] 0).opt r_i64.dec = table_Middle.f a0_0 a0_1 a0_2 a0_3 a0_4 a0_5 a0_6 a0_7 a0_8 a0_9 a0_10 a0_11 a0_12 a0_13 a0_14 a0_15 := by kernel_rfl
  exact calls_of named mixed t_table_Next_ok.ct noL_ok ht h (by kernel_rfl) (by kernel_rfl) w fun _ _ _ _ _ hd hx => r_i64.ok hd hx
noncomputable def table_Middle.c : Entry := fun args _ _ => g_i64x16 args fun a0_0 a0_1 a0_2 a0_3 a0_4 a0_5 a0_6 a0_7 a0_8 a0_9 a0_10 a0_11 a0_12 a0_13 a0_14 a0_15 args => aN args (some { o := table_Middle.f a0_0 a0_1 a0_2 a0_3 a0_4 a0_5 a0_6 a0_7 a0_8 a0_9 a0_10 a0_11 a0_12 a0_13 a0_14 a0_15, enc := r_i64.enc })
theorem table_Middle.ok : EntryOK Try.prog 15 table_Middle.c := by
  intro args H hn c h _ r hr ρ w xs hx hrel
  unfold table_Middle.c at h
  obtain ⟨a0_0, a0_1, a0_2, a0_3, a0_4, a0_5, a0_6, a0_7, a0_8, a0_9, a0_10, a0_11, a0_12, a0_13, a0_14, a0_15, xs, args, rfl, hx, h⟩ := g_i64x16_ok h hx
  obtain ⟨rfl, h⟩ := aN_ok h hx
  cases h
  refine (table_Middle.calls a0_0 a0_1 a0_2 a0_3 a0_4 a0_5 a0_6 a0_7 a0_8 a0_9 a0_10 a0_11 a0_12 a0_13 a0_14 a0_15 r w hr).mono ?_
  rintro e w' ⟨rfl, hb⟩
  exact ⟨_, ρ, rfl, r_i64.enc_rel ρ r, ⟨rfl, hrel.below hb⟩, Eff.of_below hb⟩
noncomputable def t_table_Middle : List (Nat × Entry) := (15, table_Middle.c) :: t_table_Next
theorem t_table_Middle_ok : TabOK Try.prog t_table_Middle := TabOK.cons table_Middle.ok t_table_Next_ok
noncomputable abbrev tab_S0 : List (Nat × Entry) := t_table_Middle
theorem tab_S0_ok : TabOK Try.prog tab_S0 := t_table_Middle_ok
end
end Go.Proofs.Ytlekjgjhbanimaa.S
