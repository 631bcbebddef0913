/- Contracts by the symbolic walk: agenda_Agenda_All. -/
import Derived.Test.YtgkheobpnjmgdaaProg
import Derived.Test.YtgkheobpnjmgdaaSXo
import Derived.Test.YtgkheobpnjmgdaaS5
namespace Go.Proofs.Ytgkheobpnjmgdaa.S
open Go Go.RowKit Go.Proofs.Ytgkheobpnjmgdaa.SX Go.Proofs
set_option linter.unusedVariables false
noncomputable section
abbrev agenda_Agenda_All.X : Type := Int × (List ((Int × Int × Int × Int × Int) × Int))
def agenda_Agenda_All.decX : List AV → Option agenda_Agenda_All.X
  | [y0, y1] => (dI .i64 y0).bind fun n0 => (dL (.pair (.pair (.int .i64) (.pair (.int .i64) (.pair (.int .i64) (.pair (.int .i64) (.int .i64))))) (.int .i64)) y1).bind fun n1 => some (n0, n1)
  | _ => none
def agenda_Agenda_All.encX (x : agenda_Agenda_All.X) : List AV := [.int .i64 (.s x.1), .ro (.pair (.pair (.int .i64) (.pair (.int .i64) (.pair (.int .i64) (.pair (.int .i64) (.int .i64))))) (.int .i64)) x.2]
theorem agenda_Agenda_All.decX_ok (ys : List AV) (x : agenda_Agenda_All.X) (h : agenda_Agenda_All.decX ys = some x) : Ptw ys (agenda_Agenda_All.encX x) := by
  unfold agenda_Agenda_All.decX at h
  split at h
  · obtain ⟨n0, e0, h⟩ := Option.bind_eq_some_iff.1 h
    obtain ⟨n1, e1, h⟩ := Option.bind_eq_some_iff.1 h
    cases h
    exact ⟨dI_p e0, ⟨dL_ok e1, trivial⟩⟩
  · cases h
abbrev agenda_Agenda_All.Y : Type := Int × (List ((Int × Int × Int × Int × Int) × Int)) × (List (Int × Int × Int × Int × Int))
def agenda_Agenda_All.decY : List AV → Option agenda_Agenda_All.Y
  | [y0, y1, y2] => (dI .i64 y0).bind fun n0 => (dL (.pair (.pair (.int .i64) (.pair (.int .i64) (.pair (.int .i64) (.pair (.int .i64) (.int .i64))))) (.int .i64)) y1).bind fun n1 => (dL (.pair (.int .i64) (.pair (.int .i64) (.pair (.int .i64) (.pair (.int .i64) (.int .i64))))) y2).bind fun n2 => some (n0, n1, n2)
  | _ => none
def agenda_Agenda_All.encY (x : agenda_Agenda_All.Y) : List AV := [.int .i64 (.s x.1), .ro (.pair (.pair (.int .i64) (.pair (.int .i64) (.pair (.int .i64) (.pair (.int .i64) (.int .i64))))) (.int .i64)) x.2.1, .ro (.pair (.int .i64) (.pair (.int .i64) (.pair (.int .i64) (.pair (.int .i64) (.int .i64))))) x.2.2]
theorem agenda_Agenda_All.decY_ok (ys : List AV) (x : agenda_Agenda_All.Y) (h : agenda_Agenda_All.decY ys = some x) : Ptw ys (agenda_Agenda_All.encY x) := by
  unfold agenda_Agenda_All.decY at h
  split at h
  · obtain ⟨n0, e0, h⟩ := Option.bind_eq_some_iff.1 h
    obtain ⟨n1, e1, h⟩ := Option.bind_eq_some_iff.1 h
    obtain ⟨n2, e2, h⟩ := Option.bind_eq_some_iff.1 h
    cases h
    exact ⟨dI_p e0, ⟨dL_ok e1, ⟨dL_ok e2, trivial⟩⟩⟩
  · cases h
noncomputable def agenda_Agenda_All.tm : Templ := { keys := [], roots := [.ptr 0 0], ylds := [], H := [(0, .cells 30 [.own 1, .hole]), (1, .vec 64 (.pair (.pair (.int .i64) (.pair (.int .i64) (.pair (.int .i64) (.pair (.int .i64) (.int .i64))))) (.int .i64)) true)], n := 2, stay := [0] }
noncomputable def agenda_Agenda_All.tr : Templ := { keys := [], roots := [.own 2], ylds := [], H := [(0, .cells 30 [.own 1, .hole]), (1, .vec 64 (.pair (.pair (.int .i64) (.pair (.int .i64) (.pair (.int .i64) (.pair (.int .i64) (.int .i64))))) (.int .i64)) true), (2, .vec 32 (.pair (.int .i64) (.pair (.int .i64) (.pair (.int .i64) (.pair (.int .i64) (.int .i64))))) true)], n := 3, stay := [0] }
noncomputable def agenda_Agenda_All.k : FK agenda_Agenda_All.X agenda_Agenda_All.Y := ⟨agenda_Agenda_All.tm, agenda_Agenda_All.tr, agenda_Agenda_All.decX, agenda_Agenda_All.encX, agenda_Agenda_All.decY, agenda_Agenda_All.encY⟩
theorem agenda_Agenda_All.k_ok : agenda_Agenda_All.k.OK := ⟨agenda_Agenda_All.decX_ok, agenda_Agenda_All.decY_ok, (by show ∀ j ∈ ([0] : List Nat), j < 2; decide)⟩
def agenda_Agenda_All.f (x : agenda_Agenda_All.X) : Option (agenda_Agenda_All.Y) :=
  ((agenda_Agenda_Copy.f (x.fst, x.snd)).bind fun t0 => ((agenda_Agenda_Until.f (4294967296, t0.snd.snd.fst, t0.snd.snd.snd)).bind fun t1 => some (t0.fst, t0.snd.fst, t1.snd.snd)))
set_option maxRecDepth 100000 in
theorem agenda_Agenda_All.f_eq (x : agenda_Agenda_All.X) : (walk Try.prog (ctOf tab_S5) (ltOf lt_S5) 100000 17 (agenda_Agenda_All.k.tm.vals (agenda_Agenda_All.encX x)) (agenda_Agenda_All.k.tm.heap (agenda_Agenda_All.encX x)) agenda_Agenda_All.k.tm.n).strip.opt agenda_Agenda_All.k.leaf = agenda_Agenda_All.f x := by kernel_rfl
set_option maxRecDepth 100000 in
theorem agenda_Agenda_All.f_fix (x : agenda_Agenda_All.X) : (walk Try.prog (ctOf tab_S5) (ltOf lt_S5) 100000 17 (agenda_Agenda_All.k.tm.vals (agenda_Agenda_All.encX x)) (agenda_Agenda_All.k.tm.heap (agenda_Agenda_All.encX x)) agenda_Agenda_All.k.tm.n).fixed = walk Try.prog (ctOf tab_S5) (ltOf lt_S5) 100000 17 (agenda_Agenda_All.k.tm.vals (agenda_Agenda_All.encX x)) (agenda_Agenda_All.k.tm.heap (agenda_Agenda_All.encX x)) agenda_Agenda_All.k.tm.n := by kernel_rfl
noncomputable def agenda_Agenda_All.c : Entry := markW (agenda_Agenda_All.k.c agenda_Agenda_All.f)
theorem agenda_Agenda_All.ok : EntryOK Try.prog 17 agenda_Agenda_All.c := markW_ok (fk_ok named mixed tab_S5_ok.ct lt_S5_ok agenda_Agenda_All.k_ok agenda_Agenda_All.f_fix agenda_Agenda_All.f_eq)
noncomputable def t_agenda_Agenda_All : List (Nat × Entry) := (17, agenda_Agenda_All.c) :: tab_S5
theorem t_agenda_Agenda_All_ok : TabOK Try.prog t_agenda_Agenda_All := TabOK.cons agenda_Agenda_All.ok tab_S5_ok
noncomputable abbrev tab_S6 : List (Nat × Entry) := t_agenda_Agenda_All
theorem tab_S6_ok : TabOK Try.prog tab_S6 := t_agenda_Agenda_All_ok
noncomputable abbrev lt_S6 : List (Nat × Nat × LC) := lt_S5
theorem lt_S6_ok : LtOK Try.prog (ltOf lt_S6) := lt_S5_ok
end
end Go.Proofs.Ytgkheobpnjmgdaa.S
