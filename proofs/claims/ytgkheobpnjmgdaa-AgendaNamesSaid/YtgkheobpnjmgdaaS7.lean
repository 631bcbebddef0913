/- Contracts by the symbolic walk: vespersref10_Events, vesperslaw10_alive. -/
import Derived.Test.YtgkheobpnjmgdaaProg
import Derived.Test.YtgkheobpnjmgdaaSXo
import Derived.Test.YtgkheobpnjmgdaaS6
namespace Go.Proofs.Ytgkheobpnjmgdaa.S
open Go Go.RowKit Go.Proofs.Ytgkheobpnjmgdaa.SX Go.Proofs
set_option linter.unusedVariables false
noncomputable section
abbrev vespersref10_Events.X0 : Type := Int × (List (Int × Int × Int × Int × Int)) × (List (Int × Int × Int × Int × Int))
def vespersref10_Events.decX0 : List AV → Option vespersref10_Events.X0
  | [y0, y1, y2] => (dI .i64 y0).bind fun n0 => (dLst 0 (.pair (.int .i64) (.pair (.int .i64) (.pair (.int .i64) (.pair (.int .i64) (.int .i64))))) y1).bind fun n1 => (dLst 1 (.pair (.int .i64) (.pair (.int .i64) (.pair (.int .i64) (.pair (.int .i64) (.int .i64))))) y2).bind fun n2 => some (n0, n1, n2)
  | _ => none
def vespersref10_Events.encX0 (x : vespersref10_Events.X0) : List AV := [.int .i64 (.s x.1), .lst 0 (.pair (.int .i64) (.pair (.int .i64) (.pair (.int .i64) (.pair (.int .i64) (.int .i64))))) x.2.1 none, .lst 1 (.pair (.int .i64) (.pair (.int .i64) (.pair (.int .i64) (.pair (.int .i64) (.int .i64))))) x.2.2 none]
theorem vespersref10_Events.decX0_ok (ys : List AV) (x : vespersref10_Events.X0) (h : vespersref10_Events.decX0 ys = some x) : Ptw ys (vespersref10_Events.encX0 x) := by
  unfold vespersref10_Events.decX0 at h
  split at h
  · obtain ⟨n0, e0, h⟩ := Option.bind_eq_some_iff.1 h
    obtain ⟨n1, e1, h⟩ := Option.bind_eq_some_iff.1 h
    obtain ⟨n2, e2, h⟩ := Option.bind_eq_some_iff.1 h
    cases h
    exact ⟨dI_p e0, ⟨dLst_ok e1, ⟨dLst_ok e2, trivial⟩⟩⟩
  · cases h
abbrev vespersref10_Events.Y0 : Type := Unit
def vespersref10_Events.decY0 : List AV → Option vespersref10_Events.Y0
  | [] => some ()
  | _ => none
def vespersref10_Events.encY0 (x : vespersref10_Events.Y0) : List AV := []
theorem vespersref10_Events.decY0_ok (ys : List AV) (x : vespersref10_Events.Y0) (h : vespersref10_Events.decY0 ys = some x) : Ptw ys (vespersref10_Events.encY0 x) := by
  unfold vespersref10_Events.decY0 at h
  split at h
  · cases h
    exact trivial
  · cases h
noncomputable def vespersref10_Events.tm0 : Templ := { keys := [5, 0, 1], roots := [.hole, .hole, .hole], ylds := [], H := [], n := 0, stay := [] }
noncomputable def vespersref10_Events.tr0 : Templ := { keys := [4], roots := [.bool false], ylds := [], H := [], n := 0, stay := [] }
noncomputable def vespersref10_Events.b0 : Code := loopOf Try.prog 16 0
noncomputable def vespersref10_Events.k0 : LK vespersref10_Events.X0 vespersref10_Events.Y0 := .one 16 (szOf Try.prog 16) false vespersref10_Events.tm0 vespersref10_Events.tr0 vespersref10_Events.decX0 vespersref10_Events.encX0 vespersref10_Events.decY0 vespersref10_Events.encY0
theorem vespersref10_Events.k0_ok : vespersref10_Events.k0.OK := LK.one_ok vespersref10_Events.decX0_ok vespersref10_Events.decY0_ok (by show ∀ j ∈ ([] : List Nat), j < 0; decide) (by show ∀ j ∈ ([] : List Nat), j ∈ ([] : List Nat); decide) rfl
def vespersref10_Events.step0 (x : vespersref10_Events.X0) : Option (vespersref10_Events.X0 ⊕ (vespersref10_Events.X0 ⊕ vespersref10_Events.Y0)) :=
  (if x.fst < Int.ofNat x.snd.fst.length then (if 0 ≤ x.fst ∧ x.fst < Int.ofNat x.snd.fst.length then (if 0 ≤ x.fst ∧ x.fst < Int.ofNat x.snd.snd.length then (if (!(decide ((x.snd.fst.getD x.fst.toNat ((Ty.int IntKind.i64).pair ((Ty.int IntKind.i64).pair ((Ty.int IntKind.i64).pair ((Ty.int IntKind.i64).pair (Ty.int IntKind.i64))))).dflt).fst = (x.snd.snd.getD x.fst.toNat ((Ty.int IntKind.i64).pair ((Ty.int IntKind.i64).pair ((Ty.int IntKind.i64).pair ((Ty.int IntKind.i64).pair (Ty.int IntKind.i64))))).dflt).fst) && (decide ((x.snd.fst.getD x.fst.toNat ((Ty.int IntKind.i64).pair ((Ty.int IntKind.i64).pair ((Ty.int IntKind.i64).pair ((Ty.int IntKind.i64).pair (Ty.int IntKind.i64))))).dflt).snd.fst = (x.snd.snd.getD x.fst.toNat ((Ty.int IntKind.i64).pair ((Ty.int IntKind.i64).pair ((Ty.int IntKind.i64).pair ((Ty.int IntKind.i64).pair (Ty.int IntKind.i64))))).dflt).snd.fst) && (decide ((x.snd.fst.getD x.fst.toNat ((Ty.int IntKind.i64).pair ((Ty.int IntKind.i64).pair ((Ty.int IntKind.i64).pair ((Ty.int IntKind.i64).pair (Ty.int IntKind.i64))))).dflt).snd.snd.fst = (x.snd.snd.getD x.fst.toNat ((Ty.int IntKind.i64).pair ((Ty.int IntKind.i64).pair ((Ty.int IntKind.i64).pair ((Ty.int IntKind.i64).pair (Ty.int IntKind.i64))))).dflt).snd.snd.fst) && (decide ((x.snd.fst.getD x.fst.toNat ((Ty.int IntKind.i64).pair ((Ty.int IntKind.i64).pair ((Ty.int IntKind.i64).pair ((Ty.int IntKind.i64).pair (Ty.int IntKind.i64))))).dflt).snd.snd.snd.fst = (x.snd.snd.getD x.fst.toNat ((Ty.int IntKind.i64).pair ((Ty.int IntKind.i64).pair ((Ty.int IntKind.i64).pair ((Ty.int IntKind.i64).pair (Ty.int IntKind.i64))))).dflt).snd.snd.snd.fst) && (decide ((x.snd.fst.getD x.fst.toNat ((Ty.int IntKind.i64).pair ((Ty.int IntKind.i64).pair ((Ty.int IntKind.i64).pair ((Ty.int IntKind.i64).pair (Ty.int IntKind.i64))))).dflt).snd.snd.snd.snd = (x.snd.snd.getD x.fst.toNat ((Ty.int IntKind.i64).pair ((Ty.int IntKind.i64).pair ((Ty.int IntKind.i64).pair ((Ty.int IntKind.i64).pair (Ty.int IntKind.i64))))).dflt).snd.snd.snd.snd) && true)))))) = true then some (Sum.inr (Sum.inr ())) else some (Sum.inl (wrap64 (x.fst + 1), x.snd.fst, x.snd.snd))) else none) else none) else some (Sum.inr (Sum.inl (x.fst, x.snd.fst, x.snd.snd))))
set_option maxRecDepth 100000 in
theorem vespersref10_Events.step0_eq (x : vespersref10_Events.X0) : (roundT Try.prog (ctOf tab_S6) (ltOf lt_S6) 100000 vespersref10_Events.k0 0 vespersref10_Events.b0 (vespersref10_Events.encX0 x)).strip.opt (leafD vespersref10_Events.decX0 vespersref10_Events.k0.rets) = vespersref10_Events.step0 x := by kernel_rfl
set_option maxRecDepth 100000 in
theorem vespersref10_Events.step0_fix (x : vespersref10_Events.X0) : (roundT Try.prog (ctOf tab_S6) (ltOf lt_S6) 100000 vespersref10_Events.k0 0 vespersref10_Events.b0 (vespersref10_Events.encX0 x)).fixed = roundT Try.prog (ctOf tab_S6) (ltOf lt_S6) 100000 vespersref10_Events.k0 0 vespersref10_Events.b0 (vespersref10_Events.encX0 x) := by kernel_rfl
noncomputable def vespersref10_Events.lt0 : List (Nat × Nat × LC) := (16, 0, vespersref10_Events.k0.lc vespersref10_Events.step0 vespersref10_Events.b0) :: lt_S6
theorem vespersref10_Events.lt0_ok : LtOK Try.prog (ltOf vespersref10_Events.lt0) := ltOf_cons named mixed tab_S6_ok.ct lt_S6_ok vespersref10_Events.k0_ok vespersref10_Events.step0_fix vespersref10_Events.step0_eq lt_S6_ok
abbrev vespersref10_Events.X : Type := (List (Int × Int × Int × Int × Int)) × (List (Int × Int × Int × Int × Int))
def vespersref10_Events.decX : List AV → Option vespersref10_Events.X
  | [y0, y1] => (dLst 0 (.pair (.int .i64) (.pair (.int .i64) (.pair (.int .i64) (.pair (.int .i64) (.int .i64))))) y0).bind fun n0 => (dLst 1 (.pair (.int .i64) (.pair (.int .i64) (.pair (.int .i64) (.pair (.int .i64) (.int .i64))))) y1).bind fun n1 => some (n0, n1)
  | _ => none
def vespersref10_Events.encX (x : vespersref10_Events.X) : List AV := [.lst 0 (.pair (.int .i64) (.pair (.int .i64) (.pair (.int .i64) (.pair (.int .i64) (.int .i64))))) x.1 none, .lst 1 (.pair (.int .i64) (.pair (.int .i64) (.pair (.int .i64) (.pair (.int .i64) (.int .i64))))) x.2 none]
theorem vespersref10_Events.decX_ok (ys : List AV) (x : vespersref10_Events.X) (h : vespersref10_Events.decX ys = some x) : Ptw ys (vespersref10_Events.encX x) := by
  unfold vespersref10_Events.decX at h
  split at h
  · obtain ⟨n0, e0, h⟩ := Option.bind_eq_some_iff.1 h
    obtain ⟨n1, e1, h⟩ := Option.bind_eq_some_iff.1 h
    cases h
    exact ⟨dLst_ok e0, ⟨dLst_ok e1, trivial⟩⟩
  · cases h
noncomputable def vespersref10_Events.k : QK vespersref10_Events.X (Bool) := ⟨[.sl (.pair (.int .i64) (.pair (.int .i64) (.pair (.int .i64) (.pair (.int .i64) (.int .i64))))), .sl (.pair (.int .i64) (.pair (.int .i64) (.pair (.int .i64) (.pair (.int .i64) (.int .i64)))))], vespersref10_Events.decX, vespersref10_Events.encX, r_bool.dec, r_bool.enc⟩
theorem vespersref10_Events.k_ok : vespersref10_Events.k.OK := ⟨vespersref10_Events.decX_ok, fun v H hn r h => ⟨rfl, fun ρ x hx => by rw [r_bool.ok (H := H) (hn := hn) h hx]; exact r_bool.enc_rel ρ r⟩⟩
def vespersref10_Events.f (x : vespersref10_Events.X) : Option (Bool) :=
  (if Int.ofNat x.fst.length ≠ Int.ofNat x.snd.length then some false else ((guardEq vespersref10_Events.b0.loop vespersref10_Events.b0.loop (rounds vespersref10_Events.step0 (0, x.fst, x.snd))).bind fun t0 => (match t0 with | .inl x1 => some true | .inr y1 => some false)))
set_option maxRecDepth 100000 in
theorem vespersref10_Events.f_eq (x : vespersref10_Events.X) : (walk Try.prog (ctOf tab_S6) (ltOf vespersref10_Events.lt0) 100000 16 (vespersref10_Events.encX x) [] 0).strip.opt vespersref10_Events.k.dec = vespersref10_Events.f x := by kernel_rfl
set_option maxRecDepth 100000 in
theorem vespersref10_Events.f_fix (x : vespersref10_Events.X) : (walk Try.prog (ctOf tab_S6) (ltOf vespersref10_Events.lt0) 100000 16 (vespersref10_Events.encX x) [] 0).fixed = walk Try.prog (ctOf tab_S6) (ltOf vespersref10_Events.lt0) 100000 16 (vespersref10_Events.encX x) [] 0 := by kernel_rfl
noncomputable def vespersref10_Events.c : Entry := vespersref10_Events.k.c vespersref10_Events.f
theorem vespersref10_Events.ok : EntryOK Try.prog 16 vespersref10_Events.c := qk_ok named mixed tab_S6_ok.ct vespersref10_Events.lt0_ok vespersref10_Events.k_ok vespersref10_Events.f_fix vespersref10_Events.f_eq
noncomputable def t_vespersref10_Events : List (Nat × Entry) := (16, vespersref10_Events.c) :: tab_S6
theorem t_vespersref10_Events_ok : TabOK Try.prog t_vespersref10_Events := TabOK.cons vespersref10_Events.ok tab_S6_ok
def vesperslaw10_alive.f  : Option Bool :=
  ((vesperslaw10_at.f 5 1).bind fun t0 => ((agenda_Agenda_Put.f (t0.fst, t0.snd.fst, t0.snd.snd.fst, t0.snd.snd.snd.fst, t0.snd.snd.snd.snd, 0, [])).bind fun t1 => ((vesperslaw10_at.f 3 9).bind fun t2 => ((agenda_Agenda_Put.f (t2.fst, t2.snd.fst, t2.snd.snd.fst, t2.snd.snd.snd.fst, t2.snd.snd.snd.snd, t1.snd.fst, t1.snd.snd)).bind fun t3 => ((vesperslaw10_at.f 5 0).bind fun t4 => ((agenda_Agenda_Put.f (t4.fst, t4.snd.fst, t4.snd.snd.fst, t4.snd.snd.snd.fst, t4.snd.snd.snd.snd, t3.snd.fst, t3.snd.snd)).bind fun t5 => ((agenda_Agenda_Take.f (t5.snd.fst, t5.snd.snd)).bind fun t6 => ((agenda_Agenda_Take.f (t6.snd.snd.snd.snd.snd.snd.fst, t6.snd.snd.snd.snd.snd.snd.snd)).bind fun t7 => ((agenda_Agenda_Take.f (t7.snd.snd.snd.snd.snd.snd.fst, t7.snd.snd.snd.snd.snd.snd.snd)).bind fun t8 => (if t1.fst = 0 then (if t3.fst = 0 then (if t5.fst = 0 then ((vesperslaw10_at.f 3 9).bind fun t9 => (if (decide (t6.fst = t9.fst) && (decide (t6.snd.fst = t9.snd.fst) && (decide (t6.snd.snd.fst = t9.snd.snd.fst) && (decide (t6.snd.snd.snd.fst = t9.snd.snd.snd.fst) && (decide (t6.snd.snd.snd.snd.fst = t9.snd.snd.snd.snd) && true))))) = true then ((vesperslaw10_at.f 5 0).bind fun t10 => (if (decide (t7.fst = t10.fst) && (decide (t7.snd.fst = t10.snd.fst) && (decide (t7.snd.snd.fst = t10.snd.snd.fst) && (decide (t7.snd.snd.snd.fst = t10.snd.snd.snd.fst) && (decide (t7.snd.snd.snd.snd.fst = t10.snd.snd.snd.snd) && true))))) = true then ((vesperslaw10_at.f 5 1).bind fun t11 => (if (decide (t8.fst = t11.fst) && (decide (t8.snd.fst = t11.snd.fst) && (decide (t8.snd.snd.fst = t11.snd.snd.fst) && (decide (t8.snd.snd.snd.fst = t11.snd.snd.snd.fst) && (decide (t8.snd.snd.snd.snd.fst = t11.snd.snd.snd.snd) && true))))) = true then (if t8.snd.snd.snd.snd.snd.fst = true then some (decide (Int.ofNat t8.snd.snd.snd.snd.snd.snd.snd.length = 0)) else some false) else some false)) else some false)) else some false)) else some false) else some false) else some false))))))))))
set_option maxRecDepth 100000 in
theorem vesperslaw10_alive.calls (r : Bool) (w : World) (h : vesperslaw10_alive.f = some r) :
    Calls Try.prog 10 #[] w fun e w' => e = .returned (.bool r) ∧ Below w.heap.size w w' := by
  have ht : ((walk Try.prog (ctOf t_vespersref10_Events) (ltOf vespersref10_Events.lt0) 100000 10 [] [] 0).strip).opt r_bool.dec = vesperslaw10_alive.f := by kernel_rfl
  have hs : (walk Try.prog (ctOf t_vespersref10_Events) (ltOf vespersref10_Events.lt0) 100000 10 [] [] 0).fixed = walk Try.prog (ctOf t_vespersref10_Events) (ltOf vespersref10_Events.lt0) 100000 10 [] [] 0 := by kernel_rfl
  exact calls_of' named mixed t_vespersref10_Events_ok.ct vespersref10_Events.lt0_ok hs ht h (by kernel_rfl) (by kernel_rfl) w fun _ _ _ _ _ hd hx => r_bool.ok hd hx
noncomputable def vesperslaw10_alive.c : Entry := fun args _ _ => aN args (some { o := vesperslaw10_alive.f, enc := r_bool.enc })
theorem vesperslaw10_alive.ok : EntryOK Try.prog 10 vesperslaw10_alive.c := by
  intro args H hn c h _ r hr ρ w xs hx hrel
  unfold vesperslaw10_alive.c at h
  obtain ⟨rfl, h⟩ := aN_ok h hx
  cases h
  refine (vesperslaw10_alive.calls r w hr).mono ?_
  rintro e w' ⟨rfl, hb⟩
  exact ⟨_, ρ, rfl, r_bool.enc_rel ρ r, ⟨rfl, hrel.below hb⟩, Eff.of_below hb, fun _ h => by cases h⟩
noncomputable def t_vesperslaw10_alive : List (Nat × Entry) := (10, vesperslaw10_alive.c) :: t_vespersref10_Events
theorem t_vesperslaw10_alive_ok : TabOK Try.prog t_vesperslaw10_alive := TabOK.cons vesperslaw10_alive.ok t_vespersref10_Events_ok
noncomputable abbrev tab_S7 : List (Nat × Entry) := t_vesperslaw10_alive
theorem tab_S7_ok : TabOK Try.prog tab_S7 := t_vesperslaw10_alive_ok
noncomputable abbrev lt_S7 : List (Nat × Nat × LC) := vespersref10_Events.lt0
theorem lt_S7_ok : LtOK Try.prog (ltOf lt_S7) := vespersref10_Events.lt0_ok
end
end Go.Proofs.Ytgkheobpnjmgdaa.S
