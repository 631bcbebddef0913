/- Contracts by the symbolic walk: slices_Clone_agenda_entry_agenda_entry, agenda_Agenda_Copy. -/
import Derived.Test.YtgkheobpnjmgdaaProg
import Derived.Test.YtgkheobpnjmgdaaSXo
import Derived.Test.YtgkheobpnjmgdaaS4
namespace Go.Proofs.Ytgkheobpnjmgdaa.S
open Go Go.RowKit Go.Proofs.Ytgkheobpnjmgdaa.SX Go.Proofs
set_option linter.unusedVariables false
noncomputable section
abbrev slices_Clone_agenda_entry_agenda_entry.X : Type := (List ((Int × Int × Int × Int × Int) × Int))
def slices_Clone_agenda_entry_agenda_entry.decX : List AV → Option slices_Clone_agenda_entry_agenda_entry.X
  | [y0] => (dLst 0 (.pair (.pair (.int .i64) (.pair (.int .i64) (.pair (.int .i64) (.pair (.int .i64) (.int .i64))))) (.int .i64)) y0).bind fun n0 => some (n0)
  | _ => none
def slices_Clone_agenda_entry_agenda_entry.encX (x : slices_Clone_agenda_entry_agenda_entry.X) : List AV := [.lst 0 (.pair (.pair (.int .i64) (.pair (.int .i64) (.pair (.int .i64) (.pair (.int .i64) (.int .i64))))) (.int .i64)) x none]
theorem slices_Clone_agenda_entry_agenda_entry.decX_ok (ys : List AV) (x : slices_Clone_agenda_entry_agenda_entry.X) (h : slices_Clone_agenda_entry_agenda_entry.decX ys = some x) : Ptw ys (slices_Clone_agenda_entry_agenda_entry.encX x) := by
  unfold slices_Clone_agenda_entry_agenda_entry.decX at h
  split at h
  · obtain ⟨n0, e0, h⟩ := Option.bind_eq_some_iff.1 h
    cases h
    exact ⟨dLst_ok e0, trivial⟩
  · cases h
abbrev slices_Clone_agenda_entry_agenda_entry.Y : Type := (List ((Int × Int × Int × Int × Int) × Int))
def slices_Clone_agenda_entry_agenda_entry.decY : List AV → Option slices_Clone_agenda_entry_agenda_entry.Y
  | [y0] => (dL (.pair (.pair (.int .i64) (.pair (.int .i64) (.pair (.int .i64) (.pair (.int .i64) (.int .i64))))) (.int .i64)) y0).bind fun n0 => some (n0)
  | _ => none
def slices_Clone_agenda_entry_agenda_entry.encY (x : slices_Clone_agenda_entry_agenda_entry.Y) : List AV := [.ro (.pair (.pair (.int .i64) (.pair (.int .i64) (.pair (.int .i64) (.pair (.int .i64) (.int .i64))))) (.int .i64)) x]
theorem slices_Clone_agenda_entry_agenda_entry.decY_ok (ys : List AV) (x : slices_Clone_agenda_entry_agenda_entry.Y) (h : slices_Clone_agenda_entry_agenda_entry.decY ys = some x) : Ptw ys (slices_Clone_agenda_entry_agenda_entry.encY x) := by
  unfold slices_Clone_agenda_entry_agenda_entry.decY at h
  split at h
  · obtain ⟨n0, e0, h⟩ := Option.bind_eq_some_iff.1 h
    cases h
    exact ⟨dL_ok e0, trivial⟩
  · cases h
noncomputable def slices_Clone_agenda_entry_agenda_entry.tr : Templ := { keys := [], roots := [.own 0], ylds := [], H := [(0, .vec 64 (.pair (.pair (.int .i64) (.pair (.int .i64) (.pair (.int .i64) (.pair (.int .i64) (.int .i64))))) (.int .i64)) true)], n := 1, stay := [] }
noncomputable def slices_Clone_agenda_entry_agenda_entry.k : RK slices_Clone_agenda_entry_agenda_entry.X slices_Clone_agenda_entry_agenda_entry.Y := ⟨[.sl (.pair (.pair (.int .i64) (.pair (.int .i64) (.pair (.int .i64) (.pair (.int .i64) (.int .i64))))) (.int .i64))], slices_Clone_agenda_entry_agenda_entry.decX, slices_Clone_agenda_entry_agenda_entry.encX, slices_Clone_agenda_entry_agenda_entry.tr, slices_Clone_agenda_entry_agenda_entry.decY, slices_Clone_agenda_entry_agenda_entry.encY⟩
theorem slices_Clone_agenda_entry_agenda_entry.k_ok : slices_Clone_agenda_entry_agenda_entry.k.OK := ⟨slices_Clone_agenda_entry_agenda_entry.decX_ok, slices_Clone_agenda_entry_agenda_entry.decY_ok, fun _ => ⟨rfl, rfl⟩⟩
def slices_Clone_agenda_entry_agenda_entry.f (x : slices_Clone_agenda_entry_agenda_entry.X) : Option (slices_Clone_agenda_entry_agenda_entry.Y) :=
  (if 1 ≤ Int.ofNat (List.length x) then (if 0 + Int.ofNat (List.length x) ≤ 2872193639904 then some ([] ++ x) else none) else (sameO (some []) ((if 0 + Int.ofNat (List.length x) ≤ 2872193639904 then some ([] ++ x) else none))))
set_option maxRecDepth 100000 in
theorem slices_Clone_agenda_entry_agenda_entry.f_eq (x : slices_Clone_agenda_entry_agenda_entry.X) : (walk Try.prog (ctOf tab_S4) (ltOf lt_S4) 100000 27 (slices_Clone_agenda_entry_agenda_entry.encX x) [] 0).strip.opt slices_Clone_agenda_entry_agenda_entry.k.leaf = slices_Clone_agenda_entry_agenda_entry.f x := by kernel_rfl
set_option maxRecDepth 100000 in
theorem slices_Clone_agenda_entry_agenda_entry.f_fix (x : slices_Clone_agenda_entry_agenda_entry.X) : (walk Try.prog (ctOf tab_S4) (ltOf lt_S4) 100000 27 (slices_Clone_agenda_entry_agenda_entry.encX x) [] 0).fixed = walk Try.prog (ctOf tab_S4) (ltOf lt_S4) 100000 27 (slices_Clone_agenda_entry_agenda_entry.encX x) [] 0 := by kernel_rfl
noncomputable def slices_Clone_agenda_entry_agenda_entry.c : Entry := markW (slices_Clone_agenda_entry_agenda_entry.k.c slices_Clone_agenda_entry_agenda_entry.f)
theorem slices_Clone_agenda_entry_agenda_entry.ok : EntryOK Try.prog 27 slices_Clone_agenda_entry_agenda_entry.c := markW_ok (rk_ok named mixed tab_S4_ok.ct lt_S4_ok slices_Clone_agenda_entry_agenda_entry.k_ok slices_Clone_agenda_entry_agenda_entry.f_fix slices_Clone_agenda_entry_agenda_entry.f_eq)
noncomputable def t_slices_Clone_agenda_entry_agenda_entry : List (Nat × Entry) := (27, slices_Clone_agenda_entry_agenda_entry.c) :: tab_S4
theorem t_slices_Clone_agenda_entry_agenda_entry_ok : TabOK Try.prog t_slices_Clone_agenda_entry_agenda_entry := TabOK.cons slices_Clone_agenda_entry_agenda_entry.ok tab_S4_ok
abbrev agenda_Agenda_Copy.X : Type := Int × (List ((Int × Int × Int × Int × Int) × Int))
def agenda_Agenda_Copy.decX : List AV → Option agenda_Agenda_Copy.X
  | [y0, y1] => (dI .i64 y0).bind fun n0 => (dL (.pair (.pair (.int .i64) (.pair (.int .i64) (.pair (.int .i64) (.pair (.int .i64) (.int .i64))))) (.int .i64)) y1).bind fun n1 => some (n0, n1)
  | _ => none
def agenda_Agenda_Copy.encX (x : agenda_Agenda_Copy.X) : List AV := [.int .i64 (.s x.1), .ro (.pair (.pair (.int .i64) (.pair (.int .i64) (.pair (.int .i64) (.pair (.int .i64) (.int .i64))))) (.int .i64)) x.2]
theorem agenda_Agenda_Copy.decX_ok (ys : List AV) (x : agenda_Agenda_Copy.X) (h : agenda_Agenda_Copy.decX ys = some x) : Ptw ys (agenda_Agenda_Copy.encX x) := by
  unfold agenda_Agenda_Copy.decX at h
  split at h
  · obtain ⟨n0, e0, h⟩ := Option.bind_eq_some_iff.1 h
    obtain ⟨n1, e1, h⟩ := Option.bind_eq_some_iff.1 h
    cases h
    exact ⟨dI_p e0, ⟨dL_ok e1, trivial⟩⟩
  · cases h
abbrev agenda_Agenda_Copy.Y : Type := Int × (List ((Int × Int × Int × Int × Int) × Int)) × Int × (List ((Int × Int × Int × Int × Int) × Int))
def agenda_Agenda_Copy.decY : List AV → Option agenda_Agenda_Copy.Y
  | [y0, y1, y2, y3] => (dI .i64 y0).bind fun n0 => (dL (.pair (.pair (.int .i64) (.pair (.int .i64) (.pair (.int .i64) (.pair (.int .i64) (.int .i64))))) (.int .i64)) y1).bind fun n1 => (dI .i64 y2).bind fun n2 => (dL (.pair (.pair (.int .i64) (.pair (.int .i64) (.pair (.int .i64) (.pair (.int .i64) (.int .i64))))) (.int .i64)) y3).bind fun n3 => some (n0, n1, n2, n3)
  | _ => none
def agenda_Agenda_Copy.encY (x : agenda_Agenda_Copy.Y) : List AV := [.int .i64 (.s x.1), .ro (.pair (.pair (.int .i64) (.pair (.int .i64) (.pair (.int .i64) (.pair (.int .i64) (.int .i64))))) (.int .i64)) x.2.1, .int .i64 (.s x.2.2.1), .ro (.pair (.pair (.int .i64) (.pair (.int .i64) (.pair (.int .i64) (.pair (.int .i64) (.int .i64))))) (.int .i64)) x.2.2.2]
theorem agenda_Agenda_Copy.decY_ok (ys : List AV) (x : agenda_Agenda_Copy.Y) (h : agenda_Agenda_Copy.decY ys = some x) : Ptw ys (agenda_Agenda_Copy.encY x) := by
  unfold agenda_Agenda_Copy.decY at h
  split at h
  · obtain ⟨n0, e0, h⟩ := Option.bind_eq_some_iff.1 h
    obtain ⟨n1, e1, h⟩ := Option.bind_eq_some_iff.1 h
    obtain ⟨n2, e2, h⟩ := Option.bind_eq_some_iff.1 h
    obtain ⟨n3, e3, h⟩ := Option.bind_eq_some_iff.1 h
    cases h
    exact ⟨dI_p e0, ⟨dL_ok e1, ⟨dI_p e2, ⟨dL_ok e3, trivial⟩⟩⟩⟩
  · cases h
noncomputable def agenda_Agenda_Copy.tm : Templ := { keys := [], roots := [.ptr 0 0], ylds := [], H := [(0, .cells 30 [.own 1, .hole]), (1, .vec 64 (.pair (.pair (.int .i64) (.pair (.int .i64) (.pair (.int .i64) (.pair (.int .i64) (.int .i64))))) (.int .i64)) true)], n := 2, stay := [0] }
noncomputable def agenda_Agenda_Copy.tr : Templ := { keys := [], roots := [.ptr 2 0], ylds := [], H := [(0, .cells 30 [.own 1, .hole]), (1, .vec 64 (.pair (.pair (.int .i64) (.pair (.int .i64) (.pair (.int .i64) (.pair (.int .i64) (.int .i64))))) (.int .i64)) true), (2, .cells 30 [.own 3, .hole]), (3, .vec 64 (.pair (.pair (.int .i64) (.pair (.int .i64) (.pair (.int .i64) (.pair (.int .i64) (.int .i64))))) (.int .i64)) true)], n := 4, stay := [0] }
noncomputable def agenda_Agenda_Copy.k : FK agenda_Agenda_Copy.X agenda_Agenda_Copy.Y := ⟨agenda_Agenda_Copy.tm, agenda_Agenda_Copy.tr, agenda_Agenda_Copy.decX, agenda_Agenda_Copy.encX, agenda_Agenda_Copy.decY, agenda_Agenda_Copy.encY⟩
theorem agenda_Agenda_Copy.k_ok : agenda_Agenda_Copy.k.OK := ⟨agenda_Agenda_Copy.decX_ok, agenda_Agenda_Copy.decY_ok, (by show ∀ j ∈ ([0] : List Nat), j < 2; decide)⟩
def agenda_Agenda_Copy.f (x : agenda_Agenda_Copy.X) : Option (agenda_Agenda_Copy.Y) :=
  ((slices_Clone_agenda_entry_agenda_entry.f x.snd).bind fun t0 => some (x.fst, x.snd, x.fst, t0))
set_option maxRecDepth 100000 in
theorem agenda_Agenda_Copy.f_eq (x : agenda_Agenda_Copy.X) : (walk Try.prog (ctOf t_slices_Clone_agenda_entry_agenda_entry) (ltOf lt_S4) 100000 18 (agenda_Agenda_Copy.k.tm.vals (agenda_Agenda_Copy.encX x)) (agenda_Agenda_Copy.k.tm.heap (agenda_Agenda_Copy.encX x)) agenda_Agenda_Copy.k.tm.n).strip.opt agenda_Agenda_Copy.k.leaf = agenda_Agenda_Copy.f x := by kernel_rfl
set_option maxRecDepth 100000 in
theorem agenda_Agenda_Copy.f_fix (x : agenda_Agenda_Copy.X) : (walk Try.prog (ctOf t_slices_Clone_agenda_entry_agenda_entry) (ltOf lt_S4) 100000 18 (agenda_Agenda_Copy.k.tm.vals (agenda_Agenda_Copy.encX x)) (agenda_Agenda_Copy.k.tm.heap (agenda_Agenda_Copy.encX x)) agenda_Agenda_Copy.k.tm.n).fixed = walk Try.prog (ctOf t_slices_Clone_agenda_entry_agenda_entry) (ltOf lt_S4) 100000 18 (agenda_Agenda_Copy.k.tm.vals (agenda_Agenda_Copy.encX x)) (agenda_Agenda_Copy.k.tm.heap (agenda_Agenda_Copy.encX x)) agenda_Agenda_Copy.k.tm.n := by kernel_rfl
noncomputable def agenda_Agenda_Copy.c : Entry := markW (agenda_Agenda_Copy.k.c agenda_Agenda_Copy.f)
theorem agenda_Agenda_Copy.ok : EntryOK Try.prog 18 agenda_Agenda_Copy.c := markW_ok (fk_ok named mixed t_slices_Clone_agenda_entry_agenda_entry_ok.ct lt_S4_ok agenda_Agenda_Copy.k_ok agenda_Agenda_Copy.f_fix agenda_Agenda_Copy.f_eq)
noncomputable def t_agenda_Agenda_Copy : List (Nat × Entry) := (18, agenda_Agenda_Copy.c) :: t_slices_Clone_agenda_entry_agenda_entry
theorem t_agenda_Agenda_Copy_ok : TabOK Try.prog t_agenda_Agenda_Copy := TabOK.cons agenda_Agenda_Copy.ok t_slices_Clone_agenda_entry_agenda_entry_ok
noncomputable abbrev tab_S5 : List (Nat × Entry) := t_agenda_Agenda_Copy
theorem tab_S5_ok : TabOK Try.prog tab_S5 := t_agenda_Agenda_Copy_ok
noncomputable abbrev lt_S5 : List (Nat × Nat × LC) := lt_S4
theorem lt_S5_ok : LtOK Try.prog (ltOf lt_S5) := lt_S4_ok
end
end Go.Proofs.Ytgkheobpnjmgdaa.S
