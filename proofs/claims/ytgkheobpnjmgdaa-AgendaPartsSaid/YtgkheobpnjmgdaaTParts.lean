/- Contracts by the symbolic walk: vesperslaw10_AgendaParts. -/
import Derived.Test.YtgkheobpnjmgdaaProg
import Derived.Test.YtgkheobpnjmgdaaSXo
import Derived.Test.YtgkheobpnjmgdaaS7
namespace Go.Proofs.Ytgkheobpnjmgdaa.S
open Go Go.RowKit Go.Proofs.Ytgkheobpnjmgdaa.SX Go.Proofs
set_option linter.unusedVariables false
noncomputable section
abbrev vesperslaw10_AgendaParts.X0 : Type := Int × Int × (List (Int × Int × Int × Int × Int)) × Int × Int × Bool × Int × (List ((Int × Int × Int × Int × Int) × Int))
def vesperslaw10_AgendaParts.decX0 : List AV → Option vesperslaw10_AgendaParts.X0
  | [y0, y1, y2, y3, y4, y5, y6, y7] => (dI .i64 y0).bind fun n0 => (dI .i64 y1).bind fun n1 => (dLst 0 (.pair (.int .i64) (.pair (.int .i64) (.pair (.int .i64) (.pair (.int .i64) (.int .i64))))) y2).bind fun n2 => (dI .i64 y3).bind fun n3 => (dI .i64 y4).bind fun n4 => (dB y5).bind fun n5 => (dI .i64 y6).bind fun n6 => (dL (.pair (.pair (.int .i64) (.pair (.int .i64) (.pair (.int .i64) (.pair (.int .i64) (.int .i64))))) (.int .i64)) y7).bind fun n7 => some (n0, n1, n2, n3, n4, n5, n6, n7)
  | _ => none
def vesperslaw10_AgendaParts.encX0 (x : vesperslaw10_AgendaParts.X0) : List AV := [.int .i64 (.s x.1), .int .i64 (.s x.2.1), .lst 0 (.pair (.int .i64) (.pair (.int .i64) (.pair (.int .i64) (.pair (.int .i64) (.int .i64))))) x.2.2.1 none, .int .i64 (.s x.2.2.2.1), .int .i64 (.s x.2.2.2.2.1), .bool (.s x.2.2.2.2.2.1), .int .i64 (.s x.2.2.2.2.2.2.1), .ro (.pair (.pair (.int .i64) (.pair (.int .i64) (.pair (.int .i64) (.pair (.int .i64) (.int .i64))))) (.int .i64)) x.2.2.2.2.2.2.2]
theorem vesperslaw10_AgendaParts.decX0_ok (ys : List AV) (x : vesperslaw10_AgendaParts.X0) (h : vesperslaw10_AgendaParts.decX0 ys = some x) : Ptw ys (vesperslaw10_AgendaParts.encX0 x) := by
  unfold vesperslaw10_AgendaParts.decX0 at h
  split at h
  · obtain ⟨n0, e0, h⟩ := Option.bind_eq_some_iff.1 h
    obtain ⟨n1, e1, h⟩ := Option.bind_eq_some_iff.1 h
    obtain ⟨n2, e2, h⟩ := Option.bind_eq_some_iff.1 h
    obtain ⟨n3, e3, h⟩ := Option.bind_eq_some_iff.1 h
    obtain ⟨n4, e4, h⟩ := Option.bind_eq_some_iff.1 h
    obtain ⟨n5, e5, h⟩ := Option.bind_eq_some_iff.1 h
    obtain ⟨n6, e6, h⟩ := Option.bind_eq_some_iff.1 h
    obtain ⟨n7, e7, h⟩ := Option.bind_eq_some_iff.1 h
    cases h
    exact ⟨dI_p e0, ⟨dI_p e1, ⟨dLst_ok e2, ⟨dI_p e3, ⟨dI_p e4, ⟨dB_p e5, ⟨dI_p e6, ⟨dL_ok e7, trivial⟩⟩⟩⟩⟩⟩⟩⟩
  · cases h
abbrev vesperslaw10_AgendaParts.Y0 : Type := Unit
def vesperslaw10_AgendaParts.decY0 : List AV → Option vesperslaw10_AgendaParts.Y0
  | [] => some ()
  | _ => none
def vesperslaw10_AgendaParts.encY0 (x : vesperslaw10_AgendaParts.Y0) : List AV := []
theorem vesperslaw10_AgendaParts.decY0_ok (ys : List AV) (x : vesperslaw10_AgendaParts.Y0) (h : vesperslaw10_AgendaParts.decY0 ys = some x) : Ptw ys (vesperslaw10_AgendaParts.encY0 x) := by
  unfold vesperslaw10_AgendaParts.decY0 at h
  split at h
  · cases h
    exact trivial
  · cases h
noncomputable def vesperslaw10_AgendaParts.tm0 : Templ := { keys := [26, 25, 8, 0, 1, 2, 7], roots := [.hole, .hole, .ptr 0 0, .hole, .hole, .hole, .hole], ylds := [], H := [(0, .cells 30 [.own 1, .hole]), (1, .vec 64 (.pair (.pair (.int .i64) (.pair (.int .i64) (.pair (.int .i64) (.pair (.int .i64) (.int .i64))))) (.int .i64)) true)], n := 2, stay := [0] }
noncomputable def vesperslaw10_AgendaParts.tr0 : Templ := { keys := [], roots := [], ylds := [], H := [], n := 2, stay := [0] }
noncomputable def vesperslaw10_AgendaParts.b0 : Code := loopOf Try.prog 5 0
noncomputable def vesperslaw10_AgendaParts.k0 : LK vesperslaw10_AgendaParts.X0 vesperslaw10_AgendaParts.Y0 := .one 5 (szOf Try.prog 5) false vesperslaw10_AgendaParts.tm0 vesperslaw10_AgendaParts.tr0 vesperslaw10_AgendaParts.decX0 vesperslaw10_AgendaParts.encX0 vesperslaw10_AgendaParts.decY0 vesperslaw10_AgendaParts.encY0
theorem vesperslaw10_AgendaParts.k0_ok : vesperslaw10_AgendaParts.k0.OK := LK.one_ok vesperslaw10_AgendaParts.decX0_ok vesperslaw10_AgendaParts.decY0_ok (by show ∀ j ∈ ([0] : List Nat), j < 2; decide) (by show ∀ j ∈ ([] : List Nat), j ∈ ([0] : List Nat); decide) rfl
def vesperslaw10_AgendaParts.step0 (x : vesperslaw10_AgendaParts.X0) : Option (vesperslaw10_AgendaParts.X0 ⊕ (vesperslaw10_AgendaParts.X0 ⊕ vesperslaw10_AgendaParts.Y0)) :=
  (if x.fst < x.snd.fst then (if 0 ≤ x.fst ∧ x.fst < Int.ofNat x.snd.snd.fst.length then ((agenda_Agenda_Put.f ((x.snd.snd.fst.getD x.fst.toNat ((Ty.int IntKind.i64).pair ((Ty.int IntKind.i64).pair ((Ty.int IntKind.i64).pair ((Ty.int IntKind.i64).pair (Ty.int IntKind.i64))))).dflt).fst, (x.snd.snd.fst.getD x.fst.toNat ((Ty.int IntKind.i64).pair ((Ty.int IntKind.i64).pair ((Ty.int IntKind.i64).pair ((Ty.int IntKind.i64).pair (Ty.int IntKind.i64))))).dflt).snd.fst, (x.snd.snd.fst.getD x.fst.toNat ((Ty.int IntKind.i64).pair ((Ty.int IntKind.i64).pair ((Ty.int IntKind.i64).pair ((Ty.int IntKind.i64).pair (Ty.int IntKind.i64))))).dflt).snd.snd.fst, (x.snd.snd.fst.getD x.fst.toNat ((Ty.int IntKind.i64).pair ((Ty.int IntKind.i64).pair ((Ty.int IntKind.i64).pair ((Ty.int IntKind.i64).pair (Ty.int IntKind.i64))))).dflt).snd.snd.snd.fst, (x.snd.snd.fst.getD x.fst.toNat ((Ty.int IntKind.i64).pair ((Ty.int IntKind.i64).pair ((Ty.int IntKind.i64).pair ((Ty.int IntKind.i64).pair (Ty.int IntKind.i64))))).dflt).snd.snd.snd.snd, x.snd.snd.snd.snd.snd.snd.fst, x.snd.snd.snd.snd.snd.snd.snd)).bind fun t0 => some (Sum.inl (wrap64 (x.fst + 1), x.snd.fst, x.snd.snd.fst, x.snd.snd.snd.fst, x.snd.snd.snd.snd.fst, x.snd.snd.snd.snd.snd.fst, t0.snd.fst, t0.snd.snd))) else none) else some (Sum.inr (Sum.inl (x.fst, x.snd.fst, x.snd.snd.fst, x.snd.snd.snd.fst, x.snd.snd.snd.snd.fst, x.snd.snd.snd.snd.snd.fst, x.snd.snd.snd.snd.snd.snd.fst, x.snd.snd.snd.snd.snd.snd.snd))))
set_option maxRecDepth 100000 in
theorem vesperslaw10_AgendaParts.step0_eq (x : vesperslaw10_AgendaParts.X0) : (roundT Try.prog (ctOf tab_S7) (ltOf lt_S7) 100000 vesperslaw10_AgendaParts.k0 0 vesperslaw10_AgendaParts.b0 (vesperslaw10_AgendaParts.encX0 x)).strip.opt (leafD vesperslaw10_AgendaParts.decX0 vesperslaw10_AgendaParts.k0.rets) = vesperslaw10_AgendaParts.step0 x := by kernel_rfl
set_option maxRecDepth 100000 in
theorem vesperslaw10_AgendaParts.step0_fix (x : vesperslaw10_AgendaParts.X0) : (roundT Try.prog (ctOf tab_S7) (ltOf lt_S7) 100000 vesperslaw10_AgendaParts.k0 0 vesperslaw10_AgendaParts.b0 (vesperslaw10_AgendaParts.encX0 x)).fixed = roundT Try.prog (ctOf tab_S7) (ltOf lt_S7) 100000 vesperslaw10_AgendaParts.k0 0 vesperslaw10_AgendaParts.b0 (vesperslaw10_AgendaParts.encX0 x) := by kernel_rfl
noncomputable def vesperslaw10_AgendaParts.lt0 : List (Nat × Nat × LC) := (5, 0, vesperslaw10_AgendaParts.k0.lc vesperslaw10_AgendaParts.step0 vesperslaw10_AgendaParts.b0) :: lt_S7
theorem vesperslaw10_AgendaParts.lt0_ok : LtOK Try.prog (ltOf vesperslaw10_AgendaParts.lt0) := ltOf_cons named mixed tab_S7_ok.ct lt_S7_ok vesperslaw10_AgendaParts.k0_ok vesperslaw10_AgendaParts.step0_fix vesperslaw10_AgendaParts.step0_eq lt_S7_ok
def vesperslaw10_AgendaParts.f (a0 : List (Int × Int × Int × Int × Int)) (a1 : Int) (a2 : Int) : Option Bool :=
  ((vesperslaw10_alive.f).bind fun t0 => (if Int.ofNat a0.length > 150 then some t0 else (if (!t0) = true then some t0 else ((guardEq vesperslaw10_AgendaParts.b0.loop vesperslaw10_AgendaParts.b0.loop (rounds vesperslaw10_AgendaParts.step0 (0, Int.ofNat a0.length, a0, a1, a2, t0, 0, []))).bind fun t1 => (match t1 with | .inl x2 => ((agenda_Agenda_Copy.f (x2.snd.snd.snd.snd.snd.snd.fst, x2.snd.snd.snd.snd.snd.snd.snd)).bind fun t3 => ((agenda_Agenda_Until.f (if x2.snd.snd.snd.snd.fst < x2.snd.snd.snd.fst then x2.snd.snd.snd.snd.fst else x2.snd.snd.snd.fst, t3.fst, t3.snd.fst)).bind fun t4 => ((agenda_Agenda_Until.f (if x2.snd.snd.snd.snd.fst > x2.snd.snd.snd.fst then x2.snd.snd.snd.snd.fst else x2.snd.snd.snd.fst, t4.fst, t4.snd.fst)).bind fun t5 => (if Int.ofNat t4.snd.snd.length + Int.ofNat t5.snd.snd.length ≤ 3432621667203 then ((agenda_Agenda_Until.f (if x2.snd.snd.snd.snd.fst > x2.snd.snd.snd.fst then x2.snd.snd.snd.snd.fst else x2.snd.snd.snd.fst, t3.snd.snd.fst, t3.snd.snd.snd)).bind fun t6 => (if Int.ofNat t5.snd.fst.length = 0 then (if x2.snd.snd.snd.snd.snd.fst = true then ((vespersref10_Events.f (t4.snd.snd ++ t5.snd.snd, t6.snd.snd)).bind fun t7 => (if t7 = true then ((agenda_Agenda_All.f (t5.fst, t5.snd.fst)).bind fun t8 => ((agenda_Agenda_All.f (t6.fst, t6.snd.fst)).bind fun t9 => ((vespersref10_Events.f (t8.snd.snd, t9.snd.snd)).bind fun t10 => (if t10 = true then some (false == decide (Int.ofNat t8.snd.fst.length > 0)) else some false)))) else some false)) else some false) else (if (0 : Int) ≤ (0 : Int) ∧ (0 : Int) < Int.ofNat t5.snd.fst.length then (if x2.snd.snd.snd.snd.snd.fst = true then ((vespersref10_Events.f (t4.snd.snd ++ t5.snd.snd, t6.snd.snd)).bind fun t7 => (if t7 = true then ((agenda_Agenda_All.f (t5.fst, t5.snd.fst)).bind fun t8 => ((agenda_Agenda_All.f (t6.fst, t6.snd.fst)).bind fun t9 => ((vespersref10_Events.f (t8.snd.snd, t9.snd.snd)).bind fun t10 => (if t10 = true then (if (t5.snd.fst.getD (Int.toNat 0) (((Ty.int IntKind.i64).pair ((Ty.int IntKind.i64).pair ((Ty.int IntKind.i64).pair ((Ty.int IntKind.i64).pair (Ty.int IntKind.i64))))).pair (Ty.int IntKind.i64)).dflt).fst.fst > if x2.snd.snd.snd.snd.fst > x2.snd.snd.snd.fst then x2.snd.snd.snd.snd.fst else x2.snd.snd.snd.fst then some (true == decide (Int.ofNat t8.snd.fst.length > 0)) else some false) else some false)))) else some false)) else some false) else none))) else none)))) | .inr y2 => none)))))
set_option maxRecDepth 100000 in
theorem vesperslaw10_AgendaParts.calls (a0 : List (Int × Int × Int × Int × Int)) (a1 : Int) (a2 : Int) (r : Bool) (w : World) (v0 : Value) (h0 : SliceAt w (fun n => w.heap[n]?) (.pair (.int .i64) (.pair (.int .i64) (.pair (.int .i64) (.pair (.int .i64) (.int .i64))))) v0 a0) (h : vesperslaw10_AgendaParts.f a0 a1 a2 = some r) :
    Calls Try.prog 5 #[v0, .int .i64 a1, .int .i64 a2] w fun e w' => e = .returned (.bool r) ∧ Below w.heap.size w w' := by
  have ht : (walk Try.prog (ctOf tab_S7) (ltOf vesperslaw10_AgendaParts.lt0) 100000 5 [.lst 0 (.pair (.int .i64) (.pair (.int .i64) (.pair (.int .i64) (.pair (.int .i64) (.int .i64))))) a0 none, .int .i64 (.s a1), .int .i64 (.s a2)] [] 0).opt r_bool.dec = vesperslaw10_AgendaParts.f a0 a1 a2 := by kernel_rfl
  exact calls_ro named mixed tab_S7_ok.ct vesperslaw10_AgendaParts.lt0_ok ht h w [v0] (xs := [v0, .int .i64 a1, .int .i64 a2]) (relL_cons (rel_lst h0 rfl) (relL_cons (flatV (by kernel_rfl) (by kernel_rfl)) (relL_cons (flatV (by kernel_rfl) (by kernel_rfl)) rfl))) fun _ _ _ _ _ hd hx => r_bool.ok hd hx
/-- The pure statement of vesperslaw10_AgendaParts. -/
def vesperslaw10_AgendaParts.Pure : Prop := ∀ (a0 : List (Int × Int × Int × Int × Int)) (a1 : Int) (a2 : Int), (∀ x ∈ a0, ((Lit.int .i64 x.1).wf = true ∧ ((Lit.int .i64 x.2.1).wf = true ∧ ((Lit.int .i64 x.2.2.1).wf = true ∧ ((Lit.int .i64 x.2.2.2.1).wf = true ∧ (Lit.int .i64 x.2.2.2.2).wf = true))))) → (Lit.int .i64 a1).wf = true → (Lit.int .i64 a2).wf = true → vesperslaw10_AgendaParts.f a0 a1 a2 = some true
theorem vesperslaw10_AgendaParts.walk (P : vesperslaw10_AgendaParts.Pure) (a0 : List (Int × Int × Int × Int × Int)) (a1 : Int) (a2 : Int) (w : World) (w0 : (∀ x ∈ a0, ((Lit.int .i64 x.1).wf = true ∧ ((Lit.int .i64 x.2.1).wf = true ∧ ((Lit.int .i64 x.2.2.1).wf = true ∧ ((Lit.int .i64 x.2.2.2.1).wf = true ∧ (Lit.int .i64 x.2.2.2.2).wf = true)))))) (w1 : (Lit.int .i64 a1).wf = true) (w2 : (Lit.int .i64 a2).wf = true) (v0 : Value) (h0 : SliceAt w (fun n => w.heap[n]?) (.pair (.int .i64) (.pair (.int .i64) (.pair (.int .i64) (.pair (.int .i64) (.int .i64))))) v0 a0) :
    Calls Try.prog 5 #[v0, .int .i64 a1, .int .i64 a2] w fun e w' => e = .returned (.bool true) ∧ Below w.heap.size w w' :=
  vesperslaw10_AgendaParts.calls a0 a1 a2 true w v0 h0 (P a0 a1 a2 w0 w1 w2)
noncomputable abbrev tab_TParts : List (Nat × Entry) := tab_S7
theorem tab_TParts_ok : TabOK Try.prog tab_TParts := tab_S7_ok
noncomputable abbrev lt_TParts : List (Nat × Nat × LC) := vesperslaw10_AgendaParts.lt0
theorem lt_TParts_ok : LtOK Try.prog (ltOf lt_TParts) := vesperslaw10_AgendaParts.lt0_ok
end
end Go.Proofs.Ytgkheobpnjmgdaa.S
