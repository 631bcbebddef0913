/- Contracts by the symbolic walk: vesperslaw07_alive, vesperslaw07_PlanApart, vesperslaw07_PlanNames. -/
import Derived.Test.YtomombhiganjpaaProg
import Derived.Test.YtomombhiganjpaaSXj
import Derived.Test.YtomombhiganjpaaS0
namespace Go.Proofs.Ytomombhiganjpaa.S
open Go Go.RowKit Go.Proofs.Ytomombhiganjpaa.SX Go.Proofs
set_option linter.unusedVariables false
def vesperslaw07_alive.f  : Option Bool :=
  some true
set_option maxRecDepth 100000 in
theorem vesperslaw07_alive.calls (r : Bool) (w : World) (h : vesperslaw07_alive.f = some r) :
    Calls Try.prog 40 #[] w fun e w' => e = .returned (.bool r) ∧ Below w.heap.size w w' := by
  have ht : (walk Try.prog (ctOf []) noL 100000 40 [] [] 0).opt r_bool.dec = vesperslaw07_alive.f := by kernel_rfl
  exact calls_of named mixed (TabOK.nil).ct noL_ok ht h (by kernel_rfl) (by kernel_rfl) w fun _ _ _ _ _ hd hx => r_bool.ok hd hx
noncomputable def vesperslaw07_alive.c : Entry := fun args _ => aN args (some { o := vesperslaw07_alive.f, enc := r_bool.enc })
theorem vesperslaw07_alive.ok : EntryOK Try.prog 40 vesperslaw07_alive.c := by
  intro args H c h r hr ρ hn w xs hx hrel
  unfold vesperslaw07_alive.c at h
  obtain ⟨rfl, h⟩ := aN_ok h hx
  cases h
  refine (vesperslaw07_alive.calls r w hr).mono ?_
  rintro e w' ⟨rfl, hb⟩
  exact ⟨_, rfl, r_bool.enc_rel ρ r, hrel.below hb, Eff.of_below hb⟩
noncomputable def t_vesperslaw07_alive : List (Nat × Entry) := (40, vesperslaw07_alive.c) :: tab_S0
theorem t_vesperslaw07_alive_ok : TabOK Try.prog t_vesperslaw07_alive := TabOK.cons vesperslaw07_alive.ok tab_S0_ok
def vesperslaw07_PlanApart.f (a0_0 : Int) (a0_1 : Int) (a0_2 : Int) (a0_3 : Int) (a0_4 : Int) (a0_5 : Int) (a0_6 : Int) (a0_7 : Int) (a0_8 : Int) (a0_9 : Int) (a0_10 : Int) (a0_11 : Int) (a0_12 : Int) (a0_13 : Int) (a0_14 : Int) (a0_15 : Int) : Option Bool :=
  ((vesperslaw07_alive.f).bind fun t0 => ((plan_Check.f a0_0 a0_1 a0_2 a0_3 a0_4 a0_5 a0_6 a0_7 a0_8 a0_9 a0_10 a0_11 a0_12 a0_13 a0_14 a0_15).bind fun t1 => (if t1 ≠ 0 then (if t0 = true then ((plan_Fails.f a0_0 a0_1 a0_2 a0_3 a0_4 a0_5 a0_6 a0_7 a0_8 a0_9 a0_10 a0_11 a0_12 a0_13 a0_14 a0_15).bind fun t2 => some (decide (t2 > 0))) else some false) else ((plan_Numbers.f a0_0 a0_1 a0_2 a0_3 a0_4 a0_5 a0_6 a0_7 a0_8 a0_9 a0_10 a0_11 a0_12 a0_13 a0_14 a0_15).bind fun t2 => (if t0 = true then (if t2.fst ≥ 6 then (if t2.snd.fst ≥ 8 then (if t2.snd.snd = wrap64 (wrap64 (2 * t2.fst) + wrap64 (2 * t2.snd.fst)) then (if wrap64 (a0_9 - a0_4) ≤ wrap64 (0 - t2.fst) then (if wrap64 (wrap64 (a0_3 - a0_9) + a0_6) > a0_10 then (if wrap64 (wrap64 (wrap64 (a0_3 + a0_9) + a0_7) + a0_5) < a0_2 then (if wrap64 (2 * wrap64 (a0_7 + a0_5)) < a0_2 then (if a0_10 < a0_3 then (if t2.snd.snd < a0_9 then (if wrap64 (2 * a0_9) < a0_2 then (if a0_11 < 2147483648 then ((plan_Round.f a0_0 a0_1 a0_2 a0_3 a0_4 a0_5 a0_6 a0_7 a0_8 a0_9 a0_10 a0_11 a0_12 a0_13 a0_14 a0_15).bind fun t3 => some (decide (t3 < 33554432))) else some false) else some false) else some false) else some false) else some false) else some false) else some false) else some false) else some false) else some false) else some false) else some false)))))
set_option maxRecDepth 100000 in
theorem vesperslaw07_PlanApart.calls (a0_0 : Int) (a0_1 : Int) (a0_2 : Int) (a0_3 : Int) (a0_4 : Int) (a0_5 : Int) (a0_6 : Int) (a0_7 : Int) (a0_8 : Int) (a0_9 : Int) (a0_10 : Int) (a0_11 : Int) (a0_12 : Int) (a0_13 : Int) (a0_14 : Int) (a0_15 : Int) (r : Bool) (w : World) (h : vesperslaw07_PlanApart.f a0_0 a0_1 a0_2 a0_3 a0_4 a0_5 a0_6 a0_7 a0_8 a0_9 a0_10 a0_11 a0_12 a0_13 a0_14 a0_15 = some r) :
    Calls Try.prog 7 #[.agg #[.int .i64 a0_0, .int .i64 a0_1, .int .i64 a0_2, .int .i64 a0_3, .int .i64 a0_4, .int .i64 a0_5, .int .i64 a0_6, .int .i64 a0_7, .int .i64 a0_8, .int .i64 a0_9, .int .i64 a0_10, .int .i64 a0_11, .int .i64 a0_12, .int .i64 a0_13, .int .i64 a0_14, .int .i64 a0_15]] w fun e w' => e = .returned (.bool r) ∧ Below w.heap.size w w' := by
  have ht : (walk Try.prog (ctOf t_vesperslaw07_alive) noL 100000 7 [.agg [.int .i64 (.s a0_0), .int .i64 (.s a0_1), .int .i64 (.s a0_2), .int .i64 (.s a0_3), .int .i64 (.s a0_4), .int .i64 (.s a0_5), .int .i64 (.s a0_6), .int .i64 (.s a0_7), .int .i64 (.s a0_8), .int .i64 (.s a0_9), .int .i64 (.s a0_10), .int .i64 (.s a0_11), .int .i64 (.s a0_12), .int .i64 (.s a0_13), .int .i64 (.s a0_14), .int .i64 (.s a0_15)]] [] 0).opt r_bool.dec = vesperslaw07_PlanApart.f a0_0 a0_1 a0_2 a0_3 a0_4 a0_5 a0_6 a0_7 a0_8 a0_9 a0_10 a0_11 a0_12 a0_13 a0_14 a0_15 := by kernel_rfl
  exact calls_of named mixed t_vesperslaw07_alive_ok.ct noL_ok ht h (by kernel_rfl) (by kernel_rfl) w fun _ _ _ _ _ hd hx => r_bool.ok hd hx
noncomputable def vesperslaw07_PlanApart.c : Entry := fun args _ => g_i64x16 args fun a0_0 a0_1 a0_2 a0_3 a0_4 a0_5 a0_6 a0_7 a0_8 a0_9 a0_10 a0_11 a0_12 a0_13 a0_14 a0_15 args => aN args (some { o := vesperslaw07_PlanApart.f a0_0 a0_1 a0_2 a0_3 a0_4 a0_5 a0_6 a0_7 a0_8 a0_9 a0_10 a0_11 a0_12 a0_13 a0_14 a0_15, enc := r_bool.enc })
theorem vesperslaw07_PlanApart.ok : EntryOK Try.prog 7 vesperslaw07_PlanApart.c := by
  intro args H c h r hr ρ hn w xs hx hrel
  unfold vesperslaw07_PlanApart.c at h
  obtain ⟨a0_0, a0_1, a0_2, a0_3, a0_4, a0_5, a0_6, a0_7, a0_8, a0_9, a0_10, a0_11, a0_12, a0_13, a0_14, a0_15, xs, args, rfl, hx, h⟩ := g_i64x16_ok h hx
  obtain ⟨rfl, h⟩ := aN_ok h hx
  cases h
  refine (vesperslaw07_PlanApart.calls a0_0 a0_1 a0_2 a0_3 a0_4 a0_5 a0_6 a0_7 a0_8 a0_9 a0_10 a0_11 a0_12 a0_13 a0_14 a0_15 r w hr).mono ?_
  rintro e w' ⟨rfl, hb⟩
  exact ⟨_, rfl, r_bool.enc_rel ρ r, hrel.below hb, Eff.of_below hb⟩
noncomputable def t_vesperslaw07_PlanApart : List (Nat × Entry) := (7, vesperslaw07_PlanApart.c) :: t_vesperslaw07_alive
theorem t_vesperslaw07_PlanApart_ok : TabOK Try.prog t_vesperslaw07_PlanApart := TabOK.cons vesperslaw07_PlanApart.ok t_vesperslaw07_alive_ok
def vesperslaw07_PlanNames.f  : Option Bool :=
  some true
set_option maxRecDepth 100000 in
theorem vesperslaw07_PlanNames.calls (r : Bool) (w : World) (h : vesperslaw07_PlanNames.f = some r) :
    Calls Try.prog 5 #[] w fun e w' => e = .returned (.bool r) ∧ Below w.heap.size w w' := by
  have ht : (walk Try.prog (ctOf []) noL 100000 5 [] [] 0).opt r_bool.dec = vesperslaw07_PlanNames.f := by kernel_rfl
  exact calls_of named mixed (TabOK.nil).ct noL_ok ht h (by kernel_rfl) (by kernel_rfl) w fun _ _ _ _ _ hd hx => r_bool.ok hd hx
noncomputable def vesperslaw07_PlanNames.c : Entry := fun args _ => aN args (some { o := vesperslaw07_PlanNames.f, enc := r_bool.enc })
theorem vesperslaw07_PlanNames.ok : EntryOK Try.prog 5 vesperslaw07_PlanNames.c := by
  intro args H c h r hr ρ hn w xs hx hrel
  unfold vesperslaw07_PlanNames.c at h
  obtain ⟨rfl, h⟩ := aN_ok h hx
  cases h
  refine (vesperslaw07_PlanNames.calls r w hr).mono ?_
  rintro e w' ⟨rfl, hb⟩
  exact ⟨_, rfl, r_bool.enc_rel ρ r, hrel.below hb, Eff.of_below hb⟩
noncomputable def t_vesperslaw07_PlanNames : List (Nat × Entry) := (5, vesperslaw07_PlanNames.c) :: t_vesperslaw07_PlanApart
theorem t_vesperslaw07_PlanNames_ok : TabOK Try.prog t_vesperslaw07_PlanNames := TabOK.cons vesperslaw07_PlanNames.ok t_vesperslaw07_PlanApart_ok
/-- The pure statement of vesperslaw07_PlanApart. -/
def vesperslaw07_PlanApart.Pure : Prop := ∀ (a0_0 : Int) (a0_1 : Int) (a0_2 : Int) (a0_3 : Int) (a0_4 : Int) (a0_5 : Int) (a0_6 : Int) (a0_7 : Int) (a0_8 : Int) (a0_9 : Int) (a0_10 : Int) (a0_11 : Int) (a0_12 : Int) (a0_13 : Int) (a0_14 : Int) (a0_15 : Int), (Lit.int .i64 a0_0).wf = true → (Lit.int .i64 a0_1).wf = true → (Lit.int .i64 a0_2).wf = true → (Lit.int .i64 a0_3).wf = true → (Lit.int .i64 a0_4).wf = true → (Lit.int .i64 a0_5).wf = true → (Lit.int .i64 a0_6).wf = true → (Lit.int .i64 a0_7).wf = true → (Lit.int .i64 a0_8).wf = true → (Lit.int .i64 a0_9).wf = true → (Lit.int .i64 a0_10).wf = true → (Lit.int .i64 a0_11).wf = true → (Lit.int .i64 a0_12).wf = true → (Lit.int .i64 a0_13).wf = true → (Lit.int .i64 a0_14).wf = true → (Lit.int .i64 a0_15).wf = true → vesperslaw07_PlanApart.f a0_0 a0_1 a0_2 a0_3 a0_4 a0_5 a0_6 a0_7 a0_8 a0_9 a0_10 a0_11 a0_12 a0_13 a0_14 a0_15 = some true
theorem vesperslaw07_PlanApart.walk (P : vesperslaw07_PlanApart.Pure) (a0_0 : Int) (a0_1 : Int) (a0_2 : Int) (a0_3 : Int) (a0_4 : Int) (a0_5 : Int) (a0_6 : Int) (a0_7 : Int) (a0_8 : Int) (a0_9 : Int) (a0_10 : Int) (a0_11 : Int) (a0_12 : Int) (a0_13 : Int) (a0_14 : Int) (a0_15 : Int) (w : World) (w0_0 : (Lit.int .i64 a0_0).wf = true) (w0_1 : (Lit.int .i64 a0_1).wf = true) (w0_2 : (Lit.int .i64 a0_2).wf = true) (w0_3 : (Lit.int .i64 a0_3).wf = true) (w0_4 : (Lit.int .i64 a0_4).wf = true) (w0_5 : (Lit.int .i64 a0_5).wf = true) (w0_6 : (Lit.int .i64 a0_6).wf = true) (w0_7 : (Lit.int .i64 a0_7).wf = true) (w0_8 : (Lit.int .i64 a0_8).wf = true) (w0_9 : (Lit.int .i64 a0_9).wf = true) (w0_10 : (Lit.int .i64 a0_10).wf = true) (w0_11 : (Lit.int .i64 a0_11).wf = true) (w0_12 : (Lit.int .i64 a0_12).wf = true) (w0_13 : (Lit.int .i64 a0_13).wf = true) (w0_14 : (Lit.int .i64 a0_14).wf = true) (w0_15 : (Lit.int .i64 a0_15).wf = true) :
    Calls Try.prog 7 #[.agg #[.int .i64 a0_0, .int .i64 a0_1, .int .i64 a0_2, .int .i64 a0_3, .int .i64 a0_4, .int .i64 a0_5, .int .i64 a0_6, .int .i64 a0_7, .int .i64 a0_8, .int .i64 a0_9, .int .i64 a0_10, .int .i64 a0_11, .int .i64 a0_12, .int .i64 a0_13, .int .i64 a0_14, .int .i64 a0_15]] w fun e w' => e = .returned (.bool true) ∧ Below w.heap.size w w' :=
  vesperslaw07_PlanApart.calls a0_0 a0_1 a0_2 a0_3 a0_4 a0_5 a0_6 a0_7 a0_8 a0_9 a0_10 a0_11 a0_12 a0_13 a0_14 a0_15 true w (P a0_0 a0_1 a0_2 a0_3 a0_4 a0_5 a0_6 a0_7 a0_8 a0_9 a0_10 a0_11 a0_12 a0_13 a0_14 a0_15 w0_0 w0_1 w0_2 w0_3 w0_4 w0_5 w0_6 w0_7 w0_8 w0_9 w0_10 w0_11 w0_12 w0_13 w0_14 w0_15)
/-- The pure statement of vesperslaw07_PlanNames. -/
def vesperslaw07_PlanNames.Pure : Prop := vesperslaw07_PlanNames.f = some true
theorem vesperslaw07_PlanNames.walk (P : vesperslaw07_PlanNames.Pure)  (w : World)  :
    Calls Try.prog 5 #[] w fun e w' => e = .returned (.bool true) ∧ Below w.heap.size w w' :=
  vesperslaw07_PlanNames.calls  true w (P  )
noncomputable abbrev tab_S1 : List (Nat × Entry) := t_vesperslaw07_PlanNames
theorem tab_S1_ok : TabOK Try.prog tab_S1 := t_vesperslaw07_PlanNames_ok
end Go.Proofs.Ytomombhiganjpaa.S
