/- Contracts by the symbolic walk: vesperslaw10_AgendaUntil. -/
import Derived.Test.YtgkheobpnjmgdaaProg
import Derived.Test.YtgkheobpnjmgdaaSXo
import Derived.Test.YtgkheobpnjmgdaaS12
namespace Go.Proofs.Ytgkheobpnjmgdaa.S
open Go Go.RowKit Go.Proofs.Ytgkheobpnjmgdaa.SX Go.Proofs
set_option linter.unusedVariables false
noncomputable section
abbrev vesperslaw10_AgendaUntil.X0 : Type := Int × Int × (List (Int × Int × Int × Int × Int)) × Int × Int × Int × Bool × Int × (List ((Int × Int × Int × Int × Int) × Int))
def vesperslaw10_AgendaUntil.decX0 : List AV → Option vesperslaw10_AgendaUntil.X0
  | [y0, y1, y2, y3, y4, y5, y6, y7, y8] => (dI .i64 y0).bind fun n0 => (dI .i64 y1).bind fun n1 => (dLst 0 (.pair (.int .i64) (.pair (.int .i64) (.pair (.int .i64) (.pair (.int .i64) (.int .i64))))) y2).bind fun n2 => (dI .i64 y3).bind fun n3 => (dI .i64 y4).bind fun n4 => (dI .i64 y5).bind fun n5 => (dB y6).bind fun n6 => (dI .i64 y7).bind fun n7 => (dL (.pair (.pair (.int .i64) (.pair (.int .i64) (.pair (.int .i64) (.pair (.int .i64) (.int .i64))))) (.int .i64)) y8).bind fun n8 => some (n0, n1, n2, n3, n4, n5, n6, n7, n8)
  | _ => none
def vesperslaw10_AgendaUntil.encX0 (x : vesperslaw10_AgendaUntil.X0) : List AV := [.int .i64 (.s x.1), .int .i64 (.s x.2.1), .lst 0 (.pair (.int .i64) (.pair (.int .i64) (.pair (.int .i64) (.pair (.int .i64) (.int .i64))))) x.2.2.1 none, .int .i64 (.s x.2.2.2.1), .int .i64 (.s x.2.2.2.2.1), .int .i64 (.s x.2.2.2.2.2.1), .bool (.s x.2.2.2.2.2.2.1), .int .i64 (.s x.2.2.2.2.2.2.2.1), .ro (.pair (.pair (.int .i64) (.pair (.int .i64) (.pair (.int .i64) (.pair (.int .i64) (.int .i64))))) (.int .i64)) x.2.2.2.2.2.2.2.2]
theorem vesperslaw10_AgendaUntil.decX0_ok (ys : List AV) (x : vesperslaw10_AgendaUntil.X0) (h : vesperslaw10_AgendaUntil.decX0 ys = some x) : Ptw ys (vesperslaw10_AgendaUntil.encX0 x) := by
  unfold vesperslaw10_AgendaUntil.decX0 at h
  split at h
  · obtain ⟨n0, e0, h⟩ := Option.bind_eq_some_iff.1 h
    obtain ⟨n1, e1, h⟩ := Option.bind_eq_some_iff.1 h
    obtain ⟨n2, e2, h⟩ := Option.bind_eq_some_iff.1 h
    obtain ⟨n3, e3, h⟩ := Option.bind_eq_some_iff.1 h
    obtain ⟨n4, e4, h⟩ := Option.bind_eq_some_iff.1 h
    obtain ⟨n5, e5, h⟩ := Option.bind_eq_some_iff.1 h
    obtain ⟨n6, e6, h⟩ := Option.bind_eq_some_iff.1 h
    obtain ⟨n7, e7, h⟩ := Option.bind_eq_some_iff.1 h
    obtain ⟨n8, e8, h⟩ := Option.bind_eq_some_iff.1 h
    cases h
    exact ⟨dI_p e0, ⟨dI_p e1, ⟨dLst_ok e2, ⟨dI_p e3, ⟨dI_p e4, ⟨dI_p e5, ⟨dB_p e6, ⟨dI_p e7, ⟨dL_ok e8, trivial⟩⟩⟩⟩⟩⟩⟩⟩⟩
  · cases h
abbrev vesperslaw10_AgendaUntil.Y0 : Type := Unit
def vesperslaw10_AgendaUntil.decY0 : List AV → Option vesperslaw10_AgendaUntil.Y0
  | [] => some ()
  | _ => none
def vesperslaw10_AgendaUntil.encY0 (x : vesperslaw10_AgendaUntil.Y0) : List AV := []
theorem vesperslaw10_AgendaUntil.decY0_ok (ys : List AV) (x : vesperslaw10_AgendaUntil.Y0) (h : vesperslaw10_AgendaUntil.decY0 ys = some x) : Ptw ys (vesperslaw10_AgendaUntil.encY0 x) := by
  unfold vesperslaw10_AgendaUntil.decY0 at h
  split at h
  · cases h
    exact trivial
  · cases h
noncomputable def vesperslaw10_AgendaUntil.tm0 : Templ := { keys := [30, 29, 10, 0, 1, 2, 3, 9], roots := [.hole, .hole, .ptr 0 0, .hole, .hole, .hole, .hole, .hole], ylds := [], H := [(0, .cells 30 [.own 1, .hole]), (1, .vec 64 (.pair (.pair (.int .i64) (.pair (.int .i64) (.pair (.int .i64) (.pair (.int .i64) (.int .i64))))) (.int .i64)) true)], n := 2, stay := [0] }
noncomputable def vesperslaw10_AgendaUntil.tr0 : Templ := { keys := [], roots := [], ylds := [], H := [], n := 2, stay := [0] }
noncomputable def vesperslaw10_AgendaUntil.b0 : Code := loopOf Try.prog 9 0
noncomputable def vesperslaw10_AgendaUntil.k0 : LK vesperslaw10_AgendaUntil.X0 vesperslaw10_AgendaUntil.Y0 := .one 9 (szOf Try.prog 9) false vesperslaw10_AgendaUntil.tm0 vesperslaw10_AgendaUntil.tr0 vesperslaw10_AgendaUntil.decX0 vesperslaw10_AgendaUntil.encX0 vesperslaw10_AgendaUntil.decY0 vesperslaw10_AgendaUntil.encY0
theorem vesperslaw10_AgendaUntil.k0_ok : vesperslaw10_AgendaUntil.k0.OK := LK.one_ok vesperslaw10_AgendaUntil.decX0_ok vesperslaw10_AgendaUntil.decY0_ok (by show ∀ j ∈ ([0] : List Nat), j < 2; decide) (by show ∀ j ∈ ([] : List Nat), j ∈ ([0] : List Nat); decide) rfl
def vesperslaw10_AgendaUntil.step0 (x : vesperslaw10_AgendaUntil.X0) : Option (vesperslaw10_AgendaUntil.X0 ⊕ (vesperslaw10_AgendaUntil.X0 ⊕ vesperslaw10_AgendaUntil.Y0)) :=
  (if x.fst < x.snd.fst then (if 0 ≤ x.fst ∧ x.fst < Int.ofNat x.snd.snd.fst.length then ((agenda_Agenda_Put.f ((x.snd.snd.fst.getD x.fst.toNat ((Ty.int IntKind.i64).pair ((Ty.int IntKind.i64).pair ((Ty.int IntKind.i64).pair ((Ty.int IntKind.i64).pair (Ty.int IntKind.i64))))).dflt).fst, (x.snd.snd.fst.getD x.fst.toNat ((Ty.int IntKind.i64).pair ((Ty.int IntKind.i64).pair ((Ty.int IntKind.i64).pair ((Ty.int IntKind.i64).pair (Ty.int IntKind.i64))))).dflt).snd.fst, (x.snd.snd.fst.getD x.fst.toNat ((Ty.int IntKind.i64).pair ((Ty.int IntKind.i64).pair ((Ty.int IntKind.i64).pair ((Ty.int IntKind.i64).pair (Ty.int IntKind.i64))))).dflt).snd.snd.fst, (x.snd.snd.fst.getD x.fst.toNat ((Ty.int IntKind.i64).pair ((Ty.int IntKind.i64).pair ((Ty.int IntKind.i64).pair ((Ty.int IntKind.i64).pair (Ty.int IntKind.i64))))).dflt).snd.snd.snd.fst, (x.snd.snd.fst.getD x.fst.toNat ((Ty.int IntKind.i64).pair ((Ty.int IntKind.i64).pair ((Ty.int IntKind.i64).pair ((Ty.int IntKind.i64).pair (Ty.int IntKind.i64))))).dflt).snd.snd.snd.snd, x.snd.snd.snd.snd.snd.snd.snd.fst, x.snd.snd.snd.snd.snd.snd.snd.snd)).bind fun t0 => some (Sum.inl (wrap64 (x.fst + 1), x.snd.fst, x.snd.snd.fst, x.snd.snd.snd.fst, x.snd.snd.snd.snd.fst, x.snd.snd.snd.snd.snd.fst, x.snd.snd.snd.snd.snd.snd.fst, t0.snd.fst, t0.snd.snd))) else none) else some (Sum.inr (Sum.inl (x.fst, x.snd.fst, x.snd.snd.fst, x.snd.snd.snd.fst, x.snd.snd.snd.snd.fst, x.snd.snd.snd.snd.snd.fst, x.snd.snd.snd.snd.snd.snd.fst, x.snd.snd.snd.snd.snd.snd.snd.fst, x.snd.snd.snd.snd.snd.snd.snd.snd))))
set_option maxRecDepth 100000 in
theorem vesperslaw10_AgendaUntil.step0_eq (x : vesperslaw10_AgendaUntil.X0) : (roundT Try.prog (ctOf tab_S12) (ltOf lt_S12) 100000 vesperslaw10_AgendaUntil.k0 0 vesperslaw10_AgendaUntil.b0 (vesperslaw10_AgendaUntil.encX0 x)).strip.opt (leafD vesperslaw10_AgendaUntil.decX0 vesperslaw10_AgendaUntil.k0.rets) = vesperslaw10_AgendaUntil.step0 x := by kernel_rfl
set_option maxRecDepth 100000 in
theorem vesperslaw10_AgendaUntil.step0_fix (x : vesperslaw10_AgendaUntil.X0) : (roundT Try.prog (ctOf tab_S12) (ltOf lt_S12) 100000 vesperslaw10_AgendaUntil.k0 0 vesperslaw10_AgendaUntil.b0 (vesperslaw10_AgendaUntil.encX0 x)).fixed = roundT Try.prog (ctOf tab_S12) (ltOf lt_S12) 100000 vesperslaw10_AgendaUntil.k0 0 vesperslaw10_AgendaUntil.b0 (vesperslaw10_AgendaUntil.encX0 x) := by kernel_rfl
noncomputable def vesperslaw10_AgendaUntil.lt0 : List (Nat × Nat × LC) := (9, 0, vesperslaw10_AgendaUntil.k0.lc vesperslaw10_AgendaUntil.step0 vesperslaw10_AgendaUntil.b0) :: lt_S12
theorem vesperslaw10_AgendaUntil.lt0_ok : LtOK Try.prog (ltOf vesperslaw10_AgendaUntil.lt0) := ltOf_cons named mixed tab_S12_ok.ct lt_S12_ok vesperslaw10_AgendaUntil.k0_ok vesperslaw10_AgendaUntil.step0_fix vesperslaw10_AgendaUntil.step0_eq lt_S12_ok
abbrev vesperslaw10_AgendaUntil.X1 : Type := Int × Int × Int × Int × Int × Bool × Int × (List ((Int × Int × Int × Int × Int) × Int)) × (List (Int × Int × Int × Int × Int)) × (List (Int × Int × Int × Int × Int))
def vesperslaw10_AgendaUntil.decX1 : List AV → Option vesperslaw10_AgendaUntil.X1
  | [y0, y1, y2, y3, y4, y5, y6, y7, y8, y9] => (dI .i64 y0).bind fun n0 => (dI .i64 y1).bind fun n1 => (dI .i64 y2).bind fun n2 => (dI .i64 y3).bind fun n3 => (dI .i64 y4).bind fun n4 => (dB y5).bind fun n5 => (dI .i64 y6).bind fun n6 => (dL (.pair (.pair (.int .i64) (.pair (.int .i64) (.pair (.int .i64) (.pair (.int .i64) (.int .i64))))) (.int .i64)) y7).bind fun n7 => (dL (.pair (.int .i64) (.pair (.int .i64) (.pair (.int .i64) (.pair (.int .i64) (.int .i64))))) y8).bind fun n8 => (dL (.pair (.int .i64) (.pair (.int .i64) (.pair (.int .i64) (.pair (.int .i64) (.int .i64))))) y9).bind fun n9 => some (n0, n1, n2, n3, n4, n5, n6, n7, n8, n9)
  | _ => none
def vesperslaw10_AgendaUntil.encX1 (x : vesperslaw10_AgendaUntil.X1) : List AV := [.int .i64 (.s x.1), .int .i64 (.s x.2.1), .int .i64 (.s x.2.2.1), .int .i64 (.s x.2.2.2.1), .int .i64 (.s x.2.2.2.2.1), .bool (.s x.2.2.2.2.2.1), .int .i64 (.s x.2.2.2.2.2.2.1), .ro (.pair (.pair (.int .i64) (.pair (.int .i64) (.pair (.int .i64) (.pair (.int .i64) (.int .i64))))) (.int .i64)) x.2.2.2.2.2.2.2.1, .ro (.pair (.int .i64) (.pair (.int .i64) (.pair (.int .i64) (.pair (.int .i64) (.int .i64))))) x.2.2.2.2.2.2.2.2.1, .ro (.pair (.int .i64) (.pair (.int .i64) (.pair (.int .i64) (.pair (.int .i64) (.int .i64))))) x.2.2.2.2.2.2.2.2.2]
theorem vesperslaw10_AgendaUntil.decX1_ok (ys : List AV) (x : vesperslaw10_AgendaUntil.X1) (h : vesperslaw10_AgendaUntil.decX1 ys = some x) : Ptw ys (vesperslaw10_AgendaUntil.encX1 x) := by
  unfold vesperslaw10_AgendaUntil.decX1 at h
  split at h
  · obtain ⟨n0, e0, h⟩ := Option.bind_eq_some_iff.1 h
    obtain ⟨n1, e1, h⟩ := Option.bind_eq_some_iff.1 h
    obtain ⟨n2, e2, h⟩ := Option.bind_eq_some_iff.1 h
    obtain ⟨n3, e3, h⟩ := Option.bind_eq_some_iff.1 h
    obtain ⟨n4, e4, h⟩ := Option.bind_eq_some_iff.1 h
    obtain ⟨n5, e5, h⟩ := Option.bind_eq_some_iff.1 h
    obtain ⟨n6, e6, h⟩ := Option.bind_eq_some_iff.1 h
    obtain ⟨n7, e7, h⟩ := Option.bind_eq_some_iff.1 h
    obtain ⟨n8, e8, h⟩ := Option.bind_eq_some_iff.1 h
    obtain ⟨n9, e9, h⟩ := Option.bind_eq_some_iff.1 h
    cases h
    exact ⟨dI_p e0, ⟨dI_p e1, ⟨dI_p e2, ⟨dI_p e3, ⟨dI_p e4, ⟨dB_p e5, ⟨dI_p e6, ⟨dL_ok e7, ⟨dL_ok e8, ⟨dL_ok e9, trivial⟩⟩⟩⟩⟩⟩⟩⟩⟩⟩
  · cases h
abbrev vesperslaw10_AgendaUntil.Y1 : Type := Unit
def vesperslaw10_AgendaUntil.decY1 : List AV → Option vesperslaw10_AgendaUntil.Y1
  | [] => some ()
  | _ => none
def vesperslaw10_AgendaUntil.encY1 (x : vesperslaw10_AgendaUntil.Y1) : List AV := []
theorem vesperslaw10_AgendaUntil.decY1_ok (ys : List AV) (x : vesperslaw10_AgendaUntil.Y1) (h : vesperslaw10_AgendaUntil.decY1 ys = some x) : Ptw ys (vesperslaw10_AgendaUntil.encY1 x) := by
  unfold vesperslaw10_AgendaUntil.decY1 at h
  split at h
  · cases h
    exact trivial
  · cases h
noncomputable def vesperslaw10_AgendaUntil.tm1 : Templ := { keys := [55, 54, 12, 14, 10, 1, 2, 3, 9], roots := [.hole, .hole, .own 2, .own 3, .ptr 0 0, .hole, .hole, .hole, .hole], ylds := [], H := [(0, .cells 30 [.own 1, .hole]), (1, .vec 64 (.pair (.pair (.int .i64) (.pair (.int .i64) (.pair (.int .i64) (.pair (.int .i64) (.int .i64))))) (.int .i64)) true), (2, .vec 32 (.pair (.int .i64) (.pair (.int .i64) (.pair (.int .i64) (.pair (.int .i64) (.int .i64))))) true), (3, .vec 32 (.pair (.int .i64) (.pair (.int .i64) (.pair (.int .i64) (.pair (.int .i64) (.int .i64))))) true)], n := 4, stay := [0, 1, 2, 3] }
noncomputable def vesperslaw10_AgendaUntil.tr1 : Templ := { keys := [8], roots := [.bool false], ylds := [], H := [], n := 4, stay := [0, 1, 2, 3] }
noncomputable def vesperslaw10_AgendaUntil.b1 : Code := loopOf Try.prog 9 2
noncomputable def vesperslaw10_AgendaUntil.k1 : LK vesperslaw10_AgendaUntil.X1 vesperslaw10_AgendaUntil.Y1 := .one 9 (szOf Try.prog 9) false vesperslaw10_AgendaUntil.tm1 vesperslaw10_AgendaUntil.tr1 vesperslaw10_AgendaUntil.decX1 vesperslaw10_AgendaUntil.encX1 vesperslaw10_AgendaUntil.decY1 vesperslaw10_AgendaUntil.encY1
theorem vesperslaw10_AgendaUntil.k1_ok : vesperslaw10_AgendaUntil.k1.OK := LK.one_ok vesperslaw10_AgendaUntil.decX1_ok vesperslaw10_AgendaUntil.decY1_ok (by show ∀ j ∈ ([0, 1, 2, 3] : List Nat), j < 4; decide) (by show ∀ j ∈ ([] : List Nat), j ∈ ([0, 1, 2, 3] : List Nat); decide) rfl
def vesperslaw10_AgendaUntil.step1 (x : vesperslaw10_AgendaUntil.X1) : Option (vesperslaw10_AgendaUntil.X1 ⊕ (vesperslaw10_AgendaUntil.X1 ⊕ vesperslaw10_AgendaUntil.Y1)) :=
  (if x.fst < x.snd.fst then (if 0 ≤ x.fst ∧ x.fst < Int.ofNat x.snd.snd.snd.snd.snd.snd.snd.snd.fst.length then (if (!decide ((x.snd.snd.snd.snd.snd.snd.snd.snd.fst.getD x.fst.toNat ((Ty.int IntKind.i64).pair ((Ty.int IntKind.i64).pair ((Ty.int IntKind.i64).pair ((Ty.int IntKind.i64).pair (Ty.int IntKind.i64))))).dflt).fst ≤ x.snd.snd.fst) == decide (x.fst < Int.ofNat x.snd.snd.snd.snd.snd.snd.snd.snd.snd.length)) = true then some (Sum.inr (Sum.inr ())) else some (Sum.inl (wrap64 (x.fst + 1), x.snd.fst, x.snd.snd.fst, x.snd.snd.snd.fst, x.snd.snd.snd.snd.fst, x.snd.snd.snd.snd.snd.fst, x.snd.snd.snd.snd.snd.snd.fst, x.snd.snd.snd.snd.snd.snd.snd.fst, x.snd.snd.snd.snd.snd.snd.snd.snd.fst, x.snd.snd.snd.snd.snd.snd.snd.snd.snd))) else none) else some (Sum.inr (Sum.inl (x.fst, x.snd.fst, x.snd.snd.fst, x.snd.snd.snd.fst, x.snd.snd.snd.snd.fst, x.snd.snd.snd.snd.snd.fst, x.snd.snd.snd.snd.snd.snd.fst, x.snd.snd.snd.snd.snd.snd.snd.fst, x.snd.snd.snd.snd.snd.snd.snd.snd.fst, x.snd.snd.snd.snd.snd.snd.snd.snd.snd))))
set_option maxRecDepth 100000 in
theorem vesperslaw10_AgendaUntil.step1_eq (x : vesperslaw10_AgendaUntil.X1) : (roundT Try.prog (ctOf tab_S12) (ltOf vesperslaw10_AgendaUntil.lt0) 100000 vesperslaw10_AgendaUntil.k1 2 vesperslaw10_AgendaUntil.b1 (vesperslaw10_AgendaUntil.encX1 x)).strip.opt (leafD vesperslaw10_AgendaUntil.decX1 vesperslaw10_AgendaUntil.k1.rets) = vesperslaw10_AgendaUntil.step1 x := by kernel_rfl
set_option maxRecDepth 100000 in
theorem vesperslaw10_AgendaUntil.step1_fix (x : vesperslaw10_AgendaUntil.X1) : (roundT Try.prog (ctOf tab_S12) (ltOf vesperslaw10_AgendaUntil.lt0) 100000 vesperslaw10_AgendaUntil.k1 2 vesperslaw10_AgendaUntil.b1 (vesperslaw10_AgendaUntil.encX1 x)).fixed = roundT Try.prog (ctOf tab_S12) (ltOf vesperslaw10_AgendaUntil.lt0) 100000 vesperslaw10_AgendaUntil.k1 2 vesperslaw10_AgendaUntil.b1 (vesperslaw10_AgendaUntil.encX1 x) := by kernel_rfl
noncomputable def vesperslaw10_AgendaUntil.lt1 : List (Nat × Nat × LC) := (9, 2, vesperslaw10_AgendaUntil.k1.lc vesperslaw10_AgendaUntil.step1 vesperslaw10_AgendaUntil.b1) :: vesperslaw10_AgendaUntil.lt0
theorem vesperslaw10_AgendaUntil.lt1_ok : LtOK Try.prog (ltOf vesperslaw10_AgendaUntil.lt1) := ltOf_cons named mixed tab_S12_ok.ct vesperslaw10_AgendaUntil.lt0_ok vesperslaw10_AgendaUntil.k1_ok vesperslaw10_AgendaUntil.step1_fix vesperslaw10_AgendaUntil.step1_eq vesperslaw10_AgendaUntil.lt0_ok
abbrev vesperslaw10_AgendaUntil.X2 : Type := Int × Int × Int × Int × Int × Bool × Int × (List ((Int × Int × Int × Int × Int) × Int)) × (List (Int × Int × Int × Int × Int)) × (List (Int × Int × Int × Int × Int))
def vesperslaw10_AgendaUntil.decX2 : List AV → Option vesperslaw10_AgendaUntil.X2
  | [y0, y1, y2, y3, y4, y5, y6, y7, y8, y9] => (dI .i64 y0).bind fun n0 => (dI .i64 y1).bind fun n1 => (dI .i64 y2).bind fun n2 => (dI .i64 y3).bind fun n3 => (dI .i64 y4).bind fun n4 => (dB y5).bind fun n5 => (dI .i64 y6).bind fun n6 => (dL (.pair (.pair (.int .i64) (.pair (.int .i64) (.pair (.int .i64) (.pair (.int .i64) (.int .i64))))) (.int .i64)) y7).bind fun n7 => (dL (.pair (.int .i64) (.pair (.int .i64) (.pair (.int .i64) (.pair (.int .i64) (.int .i64))))) y8).bind fun n8 => (dL (.pair (.int .i64) (.pair (.int .i64) (.pair (.int .i64) (.pair (.int .i64) (.int .i64))))) y9).bind fun n9 => some (n0, n1, n2, n3, n4, n5, n6, n7, n8, n9)
  | _ => none
def vesperslaw10_AgendaUntil.encX2 (x : vesperslaw10_AgendaUntil.X2) : List AV := [.int .i64 (.s x.1), .int .i64 (.s x.2.1), .int .i64 (.s x.2.2.1), .int .i64 (.s x.2.2.2.1), .int .i64 (.s x.2.2.2.2.1), .bool (.s x.2.2.2.2.2.1), .int .i64 (.s x.2.2.2.2.2.2.1), .ro (.pair (.pair (.int .i64) (.pair (.int .i64) (.pair (.int .i64) (.pair (.int .i64) (.int .i64))))) (.int .i64)) x.2.2.2.2.2.2.2.1, .ro (.pair (.int .i64) (.pair (.int .i64) (.pair (.int .i64) (.pair (.int .i64) (.int .i64))))) x.2.2.2.2.2.2.2.2.1, .ro (.pair (.int .i64) (.pair (.int .i64) (.pair (.int .i64) (.pair (.int .i64) (.int .i64))))) x.2.2.2.2.2.2.2.2.2]
theorem vesperslaw10_AgendaUntil.decX2_ok (ys : List AV) (x : vesperslaw10_AgendaUntil.X2) (h : vesperslaw10_AgendaUntil.decX2 ys = some x) : Ptw ys (vesperslaw10_AgendaUntil.encX2 x) := by
  unfold vesperslaw10_AgendaUntil.decX2 at h
  split at h
  · obtain ⟨n0, e0, h⟩ := Option.bind_eq_some_iff.1 h
    obtain ⟨n1, e1, h⟩ := Option.bind_eq_some_iff.1 h
    obtain ⟨n2, e2, h⟩ := Option.bind_eq_some_iff.1 h
    obtain ⟨n3, e3, h⟩ := Option.bind_eq_some_iff.1 h
    obtain ⟨n4, e4, h⟩ := Option.bind_eq_some_iff.1 h
    obtain ⟨n5, e5, h⟩ := Option.bind_eq_some_iff.1 h
    obtain ⟨n6, e6, h⟩ := Option.bind_eq_some_iff.1 h
    obtain ⟨n7, e7, h⟩ := Option.bind_eq_some_iff.1 h
    obtain ⟨n8, e8, h⟩ := Option.bind_eq_some_iff.1 h
    obtain ⟨n9, e9, h⟩ := Option.bind_eq_some_iff.1 h
    cases h
    exact ⟨dI_p e0, ⟨dI_p e1, ⟨dI_p e2, ⟨dI_p e3, ⟨dI_p e4, ⟨dB_p e5, ⟨dI_p e6, ⟨dL_ok e7, ⟨dL_ok e8, ⟨dL_ok e9, trivial⟩⟩⟩⟩⟩⟩⟩⟩⟩⟩
  · cases h
abbrev vesperslaw10_AgendaUntil.Y2 : Type := Unit
def vesperslaw10_AgendaUntil.decY2 : List AV → Option vesperslaw10_AgendaUntil.Y2
  | [] => some ()
  | _ => none
def vesperslaw10_AgendaUntil.encY2 (x : vesperslaw10_AgendaUntil.Y2) : List AV := []
theorem vesperslaw10_AgendaUntil.decY2_ok (ys : List AV) (x : vesperslaw10_AgendaUntil.Y2) (h : vesperslaw10_AgendaUntil.decY2 ys = some x) : Ptw ys (vesperslaw10_AgendaUntil.encY2 x) := by
  unfold vesperslaw10_AgendaUntil.decY2 at h
  split at h
  · cases h
    exact trivial
  · cases h
noncomputable def vesperslaw10_AgendaUntil.tm2 : Templ := { keys := [76, 75, 12, 17, 16, 10, 2, 3, 9], roots := [.hole, .hole, .own 2, .own 3, .hole, .ptr 0 0, .hole, .hole, .hole], ylds := [], H := [(0, .cells 30 [.own 1, .hole]), (1, .vec 64 (.pair (.pair (.int .i64) (.pair (.int .i64) (.pair (.int .i64) (.pair (.int .i64) (.int .i64))))) (.int .i64)) true), (2, .vec 32 (.pair (.int .i64) (.pair (.int .i64) (.pair (.int .i64) (.pair (.int .i64) (.int .i64))))) true), (3, .vec 32 (.pair (.int .i64) (.pair (.int .i64) (.pair (.int .i64) (.pair (.int .i64) (.int .i64))))) true)], n := 4, stay := [0, 1, 2] }
noncomputable def vesperslaw10_AgendaUntil.tr2 : Templ := { keys := [], roots := [], ylds := [], H := [], n := 4, stay := [0, 1, 2] }
noncomputable def vesperslaw10_AgendaUntil.b2 : Code := loopOf Try.prog 9 4
noncomputable def vesperslaw10_AgendaUntil.k2 : LK vesperslaw10_AgendaUntil.X2 vesperslaw10_AgendaUntil.Y2 := .one 9 (szOf Try.prog 9) false vesperslaw10_AgendaUntil.tm2 vesperslaw10_AgendaUntil.tr2 vesperslaw10_AgendaUntil.decX2 vesperslaw10_AgendaUntil.encX2 vesperslaw10_AgendaUntil.decY2 vesperslaw10_AgendaUntil.encY2
theorem vesperslaw10_AgendaUntil.k2_ok : vesperslaw10_AgendaUntil.k2.OK := LK.one_ok vesperslaw10_AgendaUntil.decX2_ok vesperslaw10_AgendaUntil.decY2_ok (by show ∀ j ∈ ([0, 1, 2] : List Nat), j < 4; decide) (by show ∀ j ∈ ([] : List Nat), j ∈ ([0, 1, 2] : List Nat); decide) rfl
def vesperslaw10_AgendaUntil.step2 (x : vesperslaw10_AgendaUntil.X2) : Option (vesperslaw10_AgendaUntil.X2 ⊕ (vesperslaw10_AgendaUntil.X2 ⊕ vesperslaw10_AgendaUntil.Y2)) :=
  (if x.fst < x.snd.fst then (if 0 ≤ x.fst ∧ x.fst < Int.ofNat x.snd.snd.snd.snd.snd.snd.snd.snd.fst.length then (if (x.snd.snd.snd.snd.snd.snd.snd.snd.fst.getD x.fst.toNat ((Ty.int IntKind.i64).pair ((Ty.int IntKind.i64).pair ((Ty.int IntKind.i64).pair ((Ty.int IntKind.i64).pair (Ty.int IntKind.i64))))).dflt).snd.fst ≠ x.snd.snd.snd.fst then (if 0 ≤ x.fst ∧ x.fst < Int.ofNat x.snd.snd.snd.snd.snd.snd.snd.snd.fst.length then (if Int.ofNat x.snd.snd.snd.snd.snd.snd.snd.snd.snd.length + 1 ≤ 3432621667203 then some (Sum.inl (wrap64 (x.fst + 1), x.snd.fst, x.snd.snd.fst, x.snd.snd.snd.fst, x.snd.snd.snd.snd.fst, x.snd.snd.snd.snd.snd.fst, x.snd.snd.snd.snd.snd.snd.fst, x.snd.snd.snd.snd.snd.snd.snd.fst, x.snd.snd.snd.snd.snd.snd.snd.snd.fst, x.snd.snd.snd.snd.snd.snd.snd.snd.snd ++ [((x.snd.snd.snd.snd.snd.snd.snd.snd.fst.getD x.fst.toNat ((Ty.int IntKind.i64).pair ((Ty.int IntKind.i64).pair ((Ty.int IntKind.i64).pair ((Ty.int IntKind.i64).pair (Ty.int IntKind.i64))))).dflt).fst, (x.snd.snd.snd.snd.snd.snd.snd.snd.fst.getD x.fst.toNat ((Ty.int IntKind.i64).pair ((Ty.int IntKind.i64).pair ((Ty.int IntKind.i64).pair ((Ty.int IntKind.i64).pair (Ty.int IntKind.i64))))).dflt).snd.fst, (x.snd.snd.snd.snd.snd.snd.snd.snd.fst.getD x.fst.toNat ((Ty.int IntKind.i64).pair ((Ty.int IntKind.i64).pair ((Ty.int IntKind.i64).pair ((Ty.int IntKind.i64).pair (Ty.int IntKind.i64))))).dflt).snd.snd.fst, (x.snd.snd.snd.snd.snd.snd.snd.snd.fst.getD x.fst.toNat ((Ty.int IntKind.i64).pair ((Ty.int IntKind.i64).pair ((Ty.int IntKind.i64).pair ((Ty.int IntKind.i64).pair (Ty.int IntKind.i64))))).dflt).snd.snd.snd.fst, (x.snd.snd.snd.snd.snd.snd.snd.snd.fst.getD x.fst.toNat ((Ty.int IntKind.i64).pair ((Ty.int IntKind.i64).pair ((Ty.int IntKind.i64).pair ((Ty.int IntKind.i64).pair (Ty.int IntKind.i64))))).dflt).snd.snd.snd.snd)])) else none) else none) else (if 0 ≤ x.fst ∧ x.fst < Int.ofNat x.snd.snd.snd.snd.snd.snd.snd.snd.fst.length then (if (x.snd.snd.snd.snd.snd.snd.snd.snd.fst.getD x.fst.toNat ((Ty.int IntKind.i64).pair ((Ty.int IntKind.i64).pair ((Ty.int IntKind.i64).pair ((Ty.int IntKind.i64).pair (Ty.int IntKind.i64))))).dflt).snd.snd.fst ≠ x.snd.snd.snd.snd.fst then (if 0 ≤ x.fst ∧ x.fst < Int.ofNat x.snd.snd.snd.snd.snd.snd.snd.snd.fst.length then (if Int.ofNat x.snd.snd.snd.snd.snd.snd.snd.snd.snd.length + 1 ≤ 3432621667203 then some (Sum.inl (wrap64 (x.fst + 1), x.snd.fst, x.snd.snd.fst, x.snd.snd.snd.fst, x.snd.snd.snd.snd.fst, x.snd.snd.snd.snd.snd.fst, x.snd.snd.snd.snd.snd.snd.fst, x.snd.snd.snd.snd.snd.snd.snd.fst, x.snd.snd.snd.snd.snd.snd.snd.snd.fst, x.snd.snd.snd.snd.snd.snd.snd.snd.snd ++ [((x.snd.snd.snd.snd.snd.snd.snd.snd.fst.getD x.fst.toNat ((Ty.int IntKind.i64).pair ((Ty.int IntKind.i64).pair ((Ty.int IntKind.i64).pair ((Ty.int IntKind.i64).pair (Ty.int IntKind.i64))))).dflt).fst, (x.snd.snd.snd.snd.snd.snd.snd.snd.fst.getD x.fst.toNat ((Ty.int IntKind.i64).pair ((Ty.int IntKind.i64).pair ((Ty.int IntKind.i64).pair ((Ty.int IntKind.i64).pair (Ty.int IntKind.i64))))).dflt).snd.fst, (x.snd.snd.snd.snd.snd.snd.snd.snd.fst.getD x.fst.toNat ((Ty.int IntKind.i64).pair ((Ty.int IntKind.i64).pair ((Ty.int IntKind.i64).pair ((Ty.int IntKind.i64).pair (Ty.int IntKind.i64))))).dflt).snd.snd.fst, (x.snd.snd.snd.snd.snd.snd.snd.snd.fst.getD x.fst.toNat ((Ty.int IntKind.i64).pair ((Ty.int IntKind.i64).pair ((Ty.int IntKind.i64).pair ((Ty.int IntKind.i64).pair (Ty.int IntKind.i64))))).dflt).snd.snd.snd.fst, (x.snd.snd.snd.snd.snd.snd.snd.snd.fst.getD x.fst.toNat ((Ty.int IntKind.i64).pair ((Ty.int IntKind.i64).pair ((Ty.int IntKind.i64).pair ((Ty.int IntKind.i64).pair (Ty.int IntKind.i64))))).dflt).snd.snd.snd.snd)])) else none) else none) else some (Sum.inl (wrap64 (x.fst + 1), x.snd.fst, x.snd.snd.fst, x.snd.snd.snd.fst, x.snd.snd.snd.snd.fst, x.snd.snd.snd.snd.snd.fst, x.snd.snd.snd.snd.snd.snd.fst, x.snd.snd.snd.snd.snd.snd.snd.fst, x.snd.snd.snd.snd.snd.snd.snd.snd.fst, x.snd.snd.snd.snd.snd.snd.snd.snd.snd))) else none)) else none) else some (Sum.inr (Sum.inl (x.fst, x.snd.fst, x.snd.snd.fst, x.snd.snd.snd.fst, x.snd.snd.snd.snd.fst, x.snd.snd.snd.snd.snd.fst, x.snd.snd.snd.snd.snd.snd.fst, x.snd.snd.snd.snd.snd.snd.snd.fst, x.snd.snd.snd.snd.snd.snd.snd.snd.fst, x.snd.snd.snd.snd.snd.snd.snd.snd.snd))))
set_option maxRecDepth 100000 in
theorem vesperslaw10_AgendaUntil.step2_eq (x : vesperslaw10_AgendaUntil.X2) : (roundT Try.prog (ctOf tab_S12) (ltOf vesperslaw10_AgendaUntil.lt1) 100000 vesperslaw10_AgendaUntil.k2 4 vesperslaw10_AgendaUntil.b2 (vesperslaw10_AgendaUntil.encX2 x)).strip.opt (leafD vesperslaw10_AgendaUntil.decX2 vesperslaw10_AgendaUntil.k2.rets) = vesperslaw10_AgendaUntil.step2 x := by kernel_rfl
set_option maxRecDepth 100000 in
theorem vesperslaw10_AgendaUntil.step2_fix (x : vesperslaw10_AgendaUntil.X2) : (roundT Try.prog (ctOf tab_S12) (ltOf vesperslaw10_AgendaUntil.lt1) 100000 vesperslaw10_AgendaUntil.k2 4 vesperslaw10_AgendaUntil.b2 (vesperslaw10_AgendaUntil.encX2 x)).fixed = roundT Try.prog (ctOf tab_S12) (ltOf vesperslaw10_AgendaUntil.lt1) 100000 vesperslaw10_AgendaUntil.k2 4 vesperslaw10_AgendaUntil.b2 (vesperslaw10_AgendaUntil.encX2 x) := by kernel_rfl
noncomputable def vesperslaw10_AgendaUntil.lt2 : List (Nat × Nat × LC) := (9, 4, vesperslaw10_AgendaUntil.k2.lc vesperslaw10_AgendaUntil.step2 vesperslaw10_AgendaUntil.b2) :: vesperslaw10_AgendaUntil.lt1
theorem vesperslaw10_AgendaUntil.lt2_ok : LtOK Try.prog (ltOf vesperslaw10_AgendaUntil.lt2) := ltOf_cons named mixed tab_S12_ok.ct vesperslaw10_AgendaUntil.lt1_ok vesperslaw10_AgendaUntil.k2_ok vesperslaw10_AgendaUntil.step2_fix vesperslaw10_AgendaUntil.step2_eq vesperslaw10_AgendaUntil.lt1_ok
def vesperslaw10_AgendaUntil.f (a0 : List (Int × Int × Int × Int × Int)) (a1 : Int) (a2 : Int) (a3 : Int) : Option Bool :=
  ((vesperslaw10_alive.f).bind fun t0 => (if Int.ofNat a0.length > 150 then some t0 else (if (!t0) = true then some t0 else ((guardEq vesperslaw10_AgendaUntil.b0.loop vesperslaw10_AgendaUntil.b0.loop (rounds vesperslaw10_AgendaUntil.step0 (0, Int.ofNat a0.length, a0, a1, a2, a3, t0, 0, []))).bind fun t1 => (match t1 with | .inl x2 => ((agenda_Agenda_All.f (x2.snd.snd.snd.snd.snd.snd.snd.fst, x2.snd.snd.snd.snd.snd.snd.snd.snd)).bind fun t3 => ((agenda_Agenda_Copy.f (t3.fst, t3.snd.fst)).bind fun t4 => ((agenda_Agenda_Until.f (x2.snd.snd.snd.fst, t4.snd.snd.fst, t4.snd.snd.snd)).bind fun t5 => (if 0 + Int.ofNat t5.snd.snd.length ≤ 3432621667203 then ((agenda_Agenda_All.f (t5.fst, t5.snd.fst)).bind fun t6 => (if 0 + Int.ofNat t5.snd.snd.length + Int.ofNat t6.snd.snd.length ≤ 3432621667203 then ((vespersref10_Events.f ([] ++ t5.snd.snd ++ t6.snd.snd, t3.snd.snd)).bind fun t7 => (if (!t7) = true then some false else ((guardEq vesperslaw10_AgendaUntil.b1.loop vesperslaw10_AgendaUntil.b1.loop (rounds vesperslaw10_AgendaUntil.step1 (0, Int.ofNat t3.snd.snd.length, x2.snd.snd.snd.fst, x2.snd.snd.snd.snd.fst, x2.snd.snd.snd.snd.snd.fst, x2.snd.snd.snd.snd.snd.snd.fst, t4.fst, t4.snd.fst, t3.snd.snd, t5.snd.snd))).bind fun t8 => (match t8 with | .inl x9 => ((agenda_Agenda_Drop.f (x9.snd.snd.snd.fst, x9.snd.snd.snd.snd.fst, x9.snd.snd.snd.snd.snd.snd.fst, x9.snd.snd.snd.snd.snd.snd.snd.fst)).bind fun t10 => ((guardEq vesperslaw10_AgendaUntil.b2.loop vesperslaw10_AgendaUntil.b2.loop (rounds vesperslaw10_AgendaUntil.step2 (0, Int.ofNat x9.snd.snd.snd.snd.snd.snd.snd.snd.fst.length, t10.fst, x9.snd.snd.snd.fst, x9.snd.snd.snd.snd.fst, x9.snd.snd.snd.snd.snd.fst, t10.snd.fst, t10.snd.snd, x9.snd.snd.snd.snd.snd.snd.snd.snd.fst, []))).bind fun t11 => (match t11 with | .inl x12 => (if x12.snd.snd.snd.snd.snd.fst = true then (if x12.snd.snd.fst = wrap64 (Int.ofNat x12.snd.snd.snd.snd.snd.snd.snd.snd.fst.length - Int.ofNat x12.snd.snd.snd.snd.snd.snd.snd.snd.snd.length) then ((agenda_Agenda_All.f (x12.snd.snd.snd.snd.snd.snd.fst, x12.snd.snd.snd.snd.snd.snd.snd.fst)).bind fun t13 => ((vespersref10_Events.f (t13.snd.snd, x12.snd.snd.snd.snd.snd.snd.snd.snd.snd)).bind fun t14 => some t14)) else some false) else some false) | .inr y12 => none))) | .inr y9 => some false)))) else none)) else none)))) | .inr y2 => none)))))
set_option maxRecDepth 100000 in
theorem vesperslaw10_AgendaUntil.calls (a0 : List (Int × Int × Int × Int × Int)) (a1 : Int) (a2 : Int) (a3 : Int) (r : Bool) (w : World) (v0 : Value) (h0 : SliceAt w (fun n => w.heap[n]?) (.pair (.int .i64) (.pair (.int .i64) (.pair (.int .i64) (.pair (.int .i64) (.int .i64))))) v0 a0) (h : vesperslaw10_AgendaUntil.f a0 a1 a2 a3 = some r) :
    Calls Try.prog 9 #[v0, .int .i64 a1, .int .i64 a2, .int .i64 a3] w fun e w' => e = .returned (.bool r) ∧ Below w.heap.size w w' := by
  have ht : (walk Try.prog (ctOf tab_S12) (ltOf vesperslaw10_AgendaUntil.lt2) 100000 9 [.lst 0 (.pair (.int .i64) (.pair (.int .i64) (.pair (.int .i64) (.pair (.int .i64) (.int .i64))))) a0 none, .int .i64 (.s a1), .int .i64 (.s a2), .int .i64 (.s a3)] [] 0).opt r_bool.dec = vesperslaw10_AgendaUntil.f a0 a1 a2 a3 := by kernel_rfl
  exact calls_ro named mixed tab_S12_ok.ct vesperslaw10_AgendaUntil.lt2_ok ht h w [v0] (xs := [v0, .int .i64 a1, .int .i64 a2, .int .i64 a3]) (relL_cons (rel_lst h0 rfl) (relL_cons (flatV (by kernel_rfl) (by kernel_rfl)) (relL_cons (flatV (by kernel_rfl) (by kernel_rfl)) (relL_cons (flatV (by kernel_rfl) (by kernel_rfl)) rfl)))) fun _ _ _ _ _ hd hx => r_bool.ok hd hx
/-- The pure statement of vesperslaw10_AgendaUntil. -/
def vesperslaw10_AgendaUntil.Pure : Prop := ∀ (a0 : List (Int × Int × Int × Int × Int)) (a1 : Int) (a2 : Int) (a3 : Int), (∀ x ∈ a0, ((Lit.int .i64 x.1).wf = true ∧ ((Lit.int .i64 x.2.1).wf = true ∧ ((Lit.int .i64 x.2.2.1).wf = true ∧ ((Lit.int .i64 x.2.2.2.1).wf = true ∧ (Lit.int .i64 x.2.2.2.2).wf = true))))) → (Lit.int .i64 a1).wf = true → (Lit.int .i64 a2).wf = true → (Lit.int .i64 a3).wf = true → vesperslaw10_AgendaUntil.f a0 a1 a2 a3 = some true
theorem vesperslaw10_AgendaUntil.walk (P : vesperslaw10_AgendaUntil.Pure) (a0 : List (Int × Int × Int × Int × Int)) (a1 : Int) (a2 : Int) (a3 : Int) (w : World) (w0 : (∀ x ∈ a0, ((Lit.int .i64 x.1).wf = true ∧ ((Lit.int .i64 x.2.1).wf = true ∧ ((Lit.int .i64 x.2.2.1).wf = true ∧ ((Lit.int .i64 x.2.2.2.1).wf = true ∧ (Lit.int .i64 x.2.2.2.2).wf = true)))))) (w1 : (Lit.int .i64 a1).wf = true) (w2 : (Lit.int .i64 a2).wf = true) (w3 : (Lit.int .i64 a3).wf = true) (v0 : Value) (h0 : SliceAt w (fun n => w.heap[n]?) (.pair (.int .i64) (.pair (.int .i64) (.pair (.int .i64) (.pair (.int .i64) (.int .i64))))) v0 a0) :
    Calls Try.prog 9 #[v0, .int .i64 a1, .int .i64 a2, .int .i64 a3] w fun e w' => e = .returned (.bool true) ∧ Below w.heap.size w w' :=
  vesperslaw10_AgendaUntil.calls a0 a1 a2 a3 true w v0 h0 (P a0 a1 a2 a3 w0 w1 w2 w3)
noncomputable abbrev tab_S13 : List (Nat × Entry) := tab_S12
theorem tab_S13_ok : TabOK Try.prog tab_S13 := tab_S12_ok
noncomputable abbrev lt_S13 : List (Nat × Nat × LC) := vesperslaw10_AgendaUntil.lt2
theorem lt_S13_ok : LtOK Try.prog (ltOf lt_S13) := vesperslaw10_AgendaUntil.lt2_ok
end
end Go.Proofs.Ytgkheobpnjmgdaa.S
