/- Contracts by the symbolic walk: slices_IndexFunc_agenda_entry_agenda_entry. -/
import Derived.Test.YtgkheobpnjmgdaaProg
import Derived.Test.YtgkheobpnjmgdaaSXo
import Derived.Test.YtgkheobpnjmgdaaS7
namespace Go.Proofs.Ytgkheobpnjmgdaa.S
open Go Go.RowKit Go.Proofs.Ytgkheobpnjmgdaa.SX Go.Proofs
set_option linter.unusedVariables false
noncomputable section
abbrev slices_IndexFunc_agenda_entry_agenda_entry.X0 : Type := Int × Int × Int × Int × (List ((Int × Int × Int × Int × Int) × Int))
def slices_IndexFunc_agenda_entry_agenda_entry.decX0 : List AV → Option slices_IndexFunc_agenda_entry_agenda_entry.X0
  | [y0, y1, y2, y3, y4] => (dI .i64 y0).bind fun n0 => (dI .i64 y1).bind fun n1 => (dI .i64 y2).bind fun n2 => (dI .i64 y3).bind fun n3 => (dL (.pair (.pair (.int .i64) (.pair (.int .i64) (.pair (.int .i64) (.pair (.int .i64) (.int .i64))))) (.int .i64)) y4).bind fun n4 => some (n0, n1, n2, n3, n4)
  | _ => none
def slices_IndexFunc_agenda_entry_agenda_entry.encX0 (x : slices_IndexFunc_agenda_entry_agenda_entry.X0) : List AV := [.int .i64 (.s x.1), .int .i64 (.s x.2.1), .int .i64 (.s x.2.2.1), .int .i64 (.s x.2.2.2.1), .ro (.pair (.pair (.int .i64) (.pair (.int .i64) (.pair (.int .i64) (.pair (.int .i64) (.int .i64))))) (.int .i64)) x.2.2.2.2]
theorem slices_IndexFunc_agenda_entry_agenda_entry.decX0_ok (ys : List AV) (x : slices_IndexFunc_agenda_entry_agenda_entry.X0) (h : slices_IndexFunc_agenda_entry_agenda_entry.decX0 ys = some x) : Ptw ys (slices_IndexFunc_agenda_entry_agenda_entry.encX0 x) := by
  unfold slices_IndexFunc_agenda_entry_agenda_entry.decX0 at h
  split at h
  · obtain ⟨n0, e0, h⟩ := Option.bind_eq_some_iff.1 h
    obtain ⟨n1, e1, h⟩ := Option.bind_eq_some_iff.1 h
    obtain ⟨n2, e2, h⟩ := Option.bind_eq_some_iff.1 h
    obtain ⟨n3, e3, h⟩ := Option.bind_eq_some_iff.1 h
    obtain ⟨n4, e4, h⟩ := Option.bind_eq_some_iff.1 h
    cases h
    exact ⟨dI_p e0, ⟨dI_p e1, ⟨dI_p e2, ⟨dI_p e3, ⟨dL_ok e4, trivial⟩⟩⟩⟩⟩
  · cases h
abbrev slices_IndexFunc_agenda_entry_agenda_entry.Y0 : Type := Int × Int × Int × (List ((Int × Int × Int × Int × Int) × Int))
def slices_IndexFunc_agenda_entry_agenda_entry.decY0 : List AV → Option slices_IndexFunc_agenda_entry_agenda_entry.Y0
  | [y0, y1, y2, y3] => (dI .i64 y0).bind fun n0 => (dI .i64 y1).bind fun n1 => (dI .i64 y2).bind fun n2 => (dL (.pair (.pair (.int .i64) (.pair (.int .i64) (.pair (.int .i64) (.pair (.int .i64) (.int .i64))))) (.int .i64)) y3).bind fun n3 => some (n0, n1, n2, n3)
  | _ => none
def slices_IndexFunc_agenda_entry_agenda_entry.encY0 (x : slices_IndexFunc_agenda_entry_agenda_entry.Y0) : List AV := [.int .i64 (.s x.1), .int .i64 (.s x.2.1), .int .i64 (.s x.2.2.1), .ro (.pair (.pair (.int .i64) (.pair (.int .i64) (.pair (.int .i64) (.pair (.int .i64) (.int .i64))))) (.int .i64)) x.2.2.2]
theorem slices_IndexFunc_agenda_entry_agenda_entry.decY0_ok (ys : List AV) (x : slices_IndexFunc_agenda_entry_agenda_entry.Y0) (h : slices_IndexFunc_agenda_entry_agenda_entry.decY0 ys = some x) : Ptw ys (slices_IndexFunc_agenda_entry_agenda_entry.encY0 x) := by
  unfold slices_IndexFunc_agenda_entry_agenda_entry.decY0 at h
  split at h
  · obtain ⟨n0, e0, h⟩ := Option.bind_eq_some_iff.1 h
    obtain ⟨n1, e1, h⟩ := Option.bind_eq_some_iff.1 h
    obtain ⟨n2, e2, h⟩ := Option.bind_eq_some_iff.1 h
    obtain ⟨n3, e3, h⟩ := Option.bind_eq_some_iff.1 h
    cases h
    exact ⟨dI_p e0, ⟨dI_p e1, ⟨dI_p e2, ⟨dL_ok e3, trivial⟩⟩⟩⟩
  · cases h
noncomputable def slices_IndexFunc_agenda_entry_agenda_entry.tm0 : Templ := { keys := [8, 7, 0, 1], roots := [.hole, .hole, .own 2, .fn 35 [] [.ptr 0 0, .ptr 1 0]], ylds := [], H := [(0, .cells 3 [.hole]), (1, .cells 3 [.hole]), (2, .vec 64 (.pair (.pair (.int .i64) (.pair (.int .i64) (.pair (.int .i64) (.pair (.int .i64) (.int .i64))))) (.int .i64)) true)], n := 3, stay := [0, 1, 2] }
noncomputable def slices_IndexFunc_agenda_entry_agenda_entry.tr0 : Templ := { keys := [4], roots := [.hole], ylds := [], H := [(0, .cells 3 [.hole]), (1, .cells 3 [.hole]), (2, .vec 64 (.pair (.pair (.int .i64) (.pair (.int .i64) (.pair (.int .i64) (.pair (.int .i64) (.int .i64))))) (.int .i64)) true)], n := 3, stay := [0, 1, 2] }
noncomputable def slices_IndexFunc_agenda_entry_agenda_entry.b0 : Code := loopOf Try.prog 40 0
noncomputable def slices_IndexFunc_agenda_entry_agenda_entry.k0 : LK slices_IndexFunc_agenda_entry_agenda_entry.X0 slices_IndexFunc_agenda_entry_agenda_entry.Y0 := .one 40 (szOf Try.prog 40) false slices_IndexFunc_agenda_entry_agenda_entry.tm0 slices_IndexFunc_agenda_entry_agenda_entry.tr0 slices_IndexFunc_agenda_entry_agenda_entry.decX0 slices_IndexFunc_agenda_entry_agenda_entry.encX0 slices_IndexFunc_agenda_entry_agenda_entry.decY0 slices_IndexFunc_agenda_entry_agenda_entry.encY0
theorem slices_IndexFunc_agenda_entry_agenda_entry.k0_ok : slices_IndexFunc_agenda_entry_agenda_entry.k0.OK := LK.one_ok slices_IndexFunc_agenda_entry_agenda_entry.decX0_ok slices_IndexFunc_agenda_entry_agenda_entry.decY0_ok (by show ∀ j ∈ ([0, 1, 2] : List Nat), j < 3; decide) (by show ∀ j ∈ ([] : List Nat), j ∈ ([0, 1, 2] : List Nat); decide) rfl
def slices_IndexFunc_agenda_entry_agenda_entry.step0 (x : slices_IndexFunc_agenda_entry_agenda_entry.X0) : Option (slices_IndexFunc_agenda_entry_agenda_entry.X0 ⊕ (slices_IndexFunc_agenda_entry_agenda_entry.X0 ⊕ slices_IndexFunc_agenda_entry_agenda_entry.Y0)) :=
  (if x.fst < x.snd.fst then (if 0 ≤ x.fst ∧ x.fst < Int.ofNat x.snd.snd.snd.snd.length then (if (x.snd.snd.snd.snd.getD x.fst.toNat (((Ty.int IntKind.i64).pair ((Ty.int IntKind.i64).pair ((Ty.int IntKind.i64).pair ((Ty.int IntKind.i64).pair (Ty.int IntKind.i64))))).pair (Ty.int IntKind.i64)).dflt).fst.snd.fst = x.snd.snd.fst then (if (x.snd.snd.snd.snd.getD x.fst.toNat (((Ty.int IntKind.i64).pair ((Ty.int IntKind.i64).pair ((Ty.int IntKind.i64).pair ((Ty.int IntKind.i64).pair (Ty.int IntKind.i64))))).pair (Ty.int IntKind.i64)).dflt).fst.snd.snd.fst = x.snd.snd.snd.fst then some (Sum.inr (Sum.inr (x.fst, x.snd.snd.fst, x.snd.snd.snd.fst, x.snd.snd.snd.snd))) else some (Sum.inl (wrap64 (x.fst + 1), x.snd.fst, x.snd.snd.fst, x.snd.snd.snd.fst, x.snd.snd.snd.snd))) else some (Sum.inl (wrap64 (x.fst + 1), x.snd.fst, x.snd.snd.fst, x.snd.snd.snd.fst, x.snd.snd.snd.snd))) else none) else some (Sum.inr (Sum.inl (x.fst, x.snd.fst, x.snd.snd.fst, x.snd.snd.snd.fst, x.snd.snd.snd.snd))))
set_option maxRecDepth 100000 in
theorem slices_IndexFunc_agenda_entry_agenda_entry.step0_eq (x : slices_IndexFunc_agenda_entry_agenda_entry.X0) : (roundT Try.prog (ctOf tab_S7) (ltOf lt_S7) 100000 slices_IndexFunc_agenda_entry_agenda_entry.k0 0 slices_IndexFunc_agenda_entry_agenda_entry.b0 (slices_IndexFunc_agenda_entry_agenda_entry.encX0 x)).strip.opt (leafD slices_IndexFunc_agenda_entry_agenda_entry.decX0 slices_IndexFunc_agenda_entry_agenda_entry.k0.rets) = slices_IndexFunc_agenda_entry_agenda_entry.step0 x := by kernel_rfl
set_option maxRecDepth 100000 in
theorem slices_IndexFunc_agenda_entry_agenda_entry.step0_fix (x : slices_IndexFunc_agenda_entry_agenda_entry.X0) : (roundT Try.prog (ctOf tab_S7) (ltOf lt_S7) 100000 slices_IndexFunc_agenda_entry_agenda_entry.k0 0 slices_IndexFunc_agenda_entry_agenda_entry.b0 (slices_IndexFunc_agenda_entry_agenda_entry.encX0 x)).fixed = roundT Try.prog (ctOf tab_S7) (ltOf lt_S7) 100000 slices_IndexFunc_agenda_entry_agenda_entry.k0 0 slices_IndexFunc_agenda_entry_agenda_entry.b0 (slices_IndexFunc_agenda_entry_agenda_entry.encX0 x) := by kernel_rfl
noncomputable def slices_IndexFunc_agenda_entry_agenda_entry.lt0 : List (Nat × Nat × LC) := (40, 0, slices_IndexFunc_agenda_entry_agenda_entry.k0.lc slices_IndexFunc_agenda_entry_agenda_entry.step0 slices_IndexFunc_agenda_entry_agenda_entry.b0) :: lt_S7
theorem slices_IndexFunc_agenda_entry_agenda_entry.lt0_ok : LtOK Try.prog (ltOf slices_IndexFunc_agenda_entry_agenda_entry.lt0) := ltOf_cons named mixed tab_S7_ok.ct lt_S7_ok slices_IndexFunc_agenda_entry_agenda_entry.k0_ok slices_IndexFunc_agenda_entry_agenda_entry.step0_fix slices_IndexFunc_agenda_entry_agenda_entry.step0_eq lt_S7_ok
noncomputable abbrev tab_S10 : List (Nat × Entry) := tab_S7
theorem tab_S10_ok : TabOK Try.prog tab_S10 := tab_S7_ok
noncomputable abbrev lt_S10 : List (Nat × Nat × LC) := slices_IndexFunc_agenda_entry_agenda_entry.lt0
theorem lt_S10_ok : LtOK Try.prog (ltOf lt_S10) := slices_IndexFunc_agenda_entry_agenda_entry.lt0_ok
end
end Go.Proofs.Ytgkheobpnjmgdaa.S
