/- Contracts by the symbolic walk: agenda_Agenda_Take. -/
import Derived.Test.YtgkheobpnjmgdaaProg
import Derived.Test.YtgkheobpnjmgdaaSXo
import Derived.Test.YtgkheobpnjmgdaaS2
namespace Go.Proofs.Ytgkheobpnjmgdaa.S
open Go Go.RowKit Go.Proofs.Ytgkheobpnjmgdaa.SX Go.Proofs
set_option linter.unusedVariables false
noncomputable section
abbrev agenda_Agenda_Take.X : Type := Int × (List ((Int × Int × Int × Int × Int) × Int))
def agenda_Agenda_Take.decX : List AV → Option agenda_Agenda_Take.X
  | [y0, y1] => (dI .i64 y0).bind fun n0 => (dL (.pair (.pair (.int .i64) (.pair (.int .i64) (.pair (.int .i64) (.pair (.int .i64) (.int .i64))))) (.int .i64)) y1).bind fun n1 => some (n0, n1)
  | _ => none
def agenda_Agenda_Take.encX (x : agenda_Agenda_Take.X) : List AV := [.int .i64 (.s x.1), .ro (.pair (.pair (.int .i64) (.pair (.int .i64) (.pair (.int .i64) (.pair (.int .i64) (.int .i64))))) (.int .i64)) x.2]
theorem agenda_Agenda_Take.decX_ok (ys : List AV) (x : agenda_Agenda_Take.X) (h : agenda_Agenda_Take.decX ys = some x) : Ptw ys (agenda_Agenda_Take.encX x) := by
  unfold agenda_Agenda_Take.decX at h
  split at h
  · obtain ⟨n0, e0, h⟩ := Option.bind_eq_some_iff.1 h
    obtain ⟨n1, e1, h⟩ := Option.bind_eq_some_iff.1 h
    cases h
    exact ⟨dI_p e0, ⟨dL_ok e1, trivial⟩⟩
  · cases h
abbrev agenda_Agenda_Take.Y : Type := Int × Int × Int × Int × Int × Bool × Int × (List ((Int × Int × Int × Int × Int) × Int))
def agenda_Agenda_Take.decY : List AV → Option agenda_Agenda_Take.Y
  | [y0, y1, y2, y3, y4, y5, y6, y7] => (dI .i64 y0).bind fun n0 => (dI .i64 y1).bind fun n1 => (dI .i64 y2).bind fun n2 => (dI .i64 y3).bind fun n3 => (dI .i64 y4).bind fun n4 => (dB y5).bind fun n5 => (dI .i64 y6).bind fun n6 => (dL (.pair (.pair (.int .i64) (.pair (.int .i64) (.pair (.int .i64) (.pair (.int .i64) (.int .i64))))) (.int .i64)) y7).bind fun n7 => some (n0, n1, n2, n3, n4, n5, n6, n7)
  | _ => none
def agenda_Agenda_Take.encY (x : agenda_Agenda_Take.Y) : List AV := [.int .i64 (.s x.1), .int .i64 (.s x.2.1), .int .i64 (.s x.2.2.1), .int .i64 (.s x.2.2.2.1), .int .i64 (.s x.2.2.2.2.1), .bool (.s x.2.2.2.2.2.1), .int .i64 (.s x.2.2.2.2.2.2.1), .ro (.pair (.pair (.int .i64) (.pair (.int .i64) (.pair (.int .i64) (.pair (.int .i64) (.int .i64))))) (.int .i64)) x.2.2.2.2.2.2.2]
theorem agenda_Agenda_Take.decY_ok (ys : List AV) (x : agenda_Agenda_Take.Y) (h : agenda_Agenda_Take.decY ys = some x) : Ptw ys (agenda_Agenda_Take.encY x) := by
  unfold agenda_Agenda_Take.decY at h
  split at h
  · obtain ⟨n0, e0, h⟩ := Option.bind_eq_some_iff.1 h
    obtain ⟨n1, e1, h⟩ := Option.bind_eq_some_iff.1 h
    obtain ⟨n2, e2, h⟩ := Option.bind_eq_some_iff.1 h
    obtain ⟨n3, e3, h⟩ := Option.bind_eq_some_iff.1 h
    obtain ⟨n4, e4, h⟩ := Option.bind_eq_some_iff.1 h
    obtain ⟨n5, e5, h⟩ := Option.bind_eq_some_iff.1 h
    obtain ⟨n6, e6, h⟩ := Option.bind_eq_some_iff.1 h
    obtain ⟨n7, e7, h⟩ := Option.bind_eq_some_iff.1 h
    cases h
    exact ⟨dI_p e0, ⟨dI_p e1, ⟨dI_p e2, ⟨dI_p e3, ⟨dI_p e4, ⟨dB_p e5, ⟨dI_p e6, ⟨dL_ok e7, trivial⟩⟩⟩⟩⟩⟩⟩⟩
  · cases h
noncomputable def agenda_Agenda_Take.tm : Templ := { keys := [], roots := [.ptr 0 0], ylds := [], H := [(0, .cells 30 [.own 1, .hole]), (1, .vec 64 (.pair (.pair (.int .i64) (.pair (.int .i64) (.pair (.int .i64) (.pair (.int .i64) (.int .i64))))) (.int .i64)) true)], n := 2, stay := [0] }
noncomputable def agenda_Agenda_Take.tr : Templ := { keys := [], roots := [.tup [.agg [.hole, .hole, .hole, .hole, .hole], .hole]], ylds := [], H := [(0, .cells 30 [.own 1, .hole]), (1, .vec 64 (.pair (.pair (.int .i64) (.pair (.int .i64) (.pair (.int .i64) (.pair (.int .i64) (.int .i64))))) (.int .i64)) true)], n := 2, stay := [0] }
noncomputable def agenda_Agenda_Take.k : FK agenda_Agenda_Take.X agenda_Agenda_Take.Y := ⟨agenda_Agenda_Take.tm, agenda_Agenda_Take.tr, agenda_Agenda_Take.decX, agenda_Agenda_Take.encX, agenda_Agenda_Take.decY, agenda_Agenda_Take.encY⟩
theorem agenda_Agenda_Take.k_ok : agenda_Agenda_Take.k.OK := ⟨agenda_Agenda_Take.decX_ok, agenda_Agenda_Take.decY_ok, (by show ∀ j ∈ ([0] : List Nat), j < 2; decide)⟩
def agenda_Agenda_Take.f (x : agenda_Agenda_Take.X) : Option (agenda_Agenda_Take.Y) :=
  (if Int.ofNat x.snd.length = 0 then some (0, 0, 0, 0, 0, false, x.fst, x.snd) else (if (0 : Int) ≤ (0 : Int) ∧ (0 : Int) < Int.ofNat x.snd.length then (if 0 ≤ wrap64 (Int.ofNat x.snd.length - 1) ∧ wrap64 (Int.ofNat x.snd.length - 1) < Int.ofNat x.snd.length then (if (0 : Int) ≤ (0 : Int) ∧ (0 : Int) < Int.ofNat x.snd.length then (if (0 : Int) ≤ (0 : Int) ∧ (0 : Int) < Int.ofNat x.snd.length then (if 0 ≤ wrap64 (Int.ofNat x.snd.length - 1) ∧ wrap64 (Int.ofNat x.snd.length - 1) < Int.ofNat x.snd.length then ((container_heap_down.f (0, wrap64 (Int.ofNat x.snd.length - 1), x.fst, (x.snd.set (Int.toNat 0) (((x.snd.getD (wrap64 (Int.ofNat x.snd.length - 1)).toNat (((Ty.int IntKind.i64).pair ((Ty.int IntKind.i64).pair ((Ty.int IntKind.i64).pair ((Ty.int IntKind.i64).pair (Ty.int IntKind.i64))))).pair (Ty.int IntKind.i64)).dflt).fst.fst, (x.snd.getD (wrap64 (Int.ofNat x.snd.length - 1)).toNat (((Ty.int IntKind.i64).pair ((Ty.int IntKind.i64).pair ((Ty.int IntKind.i64).pair ((Ty.int IntKind.i64).pair (Ty.int IntKind.i64))))).pair (Ty.int IntKind.i64)).dflt).fst.snd.fst, (x.snd.getD (wrap64 (Int.ofNat x.snd.length - 1)).toNat (((Ty.int IntKind.i64).pair ((Ty.int IntKind.i64).pair ((Ty.int IntKind.i64).pair ((Ty.int IntKind.i64).pair (Ty.int IntKind.i64))))).pair (Ty.int IntKind.i64)).dflt).fst.snd.snd.fst, (x.snd.getD (wrap64 (Int.ofNat x.snd.length - 1)).toNat (((Ty.int IntKind.i64).pair ((Ty.int IntKind.i64).pair ((Ty.int IntKind.i64).pair ((Ty.int IntKind.i64).pair (Ty.int IntKind.i64))))).pair (Ty.int IntKind.i64)).dflt).fst.snd.snd.snd.fst, (x.snd.getD (wrap64 (Int.ofNat x.snd.length - 1)).toNat (((Ty.int IntKind.i64).pair ((Ty.int IntKind.i64).pair ((Ty.int IntKind.i64).pair ((Ty.int IntKind.i64).pair (Ty.int IntKind.i64))))).pair (Ty.int IntKind.i64)).dflt).fst.snd.snd.snd.snd), (x.snd.getD (wrap64 (Int.ofNat x.snd.length - 1)).toNat (((Ty.int IntKind.i64).pair ((Ty.int IntKind.i64).pair ((Ty.int IntKind.i64).pair ((Ty.int IntKind.i64).pair (Ty.int IntKind.i64))))).pair (Ty.int IntKind.i64)).dflt).snd)).set (wrap64 (Int.ofNat x.snd.length - 1)).toNat (((x.snd.getD (Int.toNat 0) (((Ty.int IntKind.i64).pair ((Ty.int IntKind.i64).pair ((Ty.int IntKind.i64).pair ((Ty.int IntKind.i64).pair (Ty.int IntKind.i64))))).pair (Ty.int IntKind.i64)).dflt).fst.fst, (x.snd.getD (Int.toNat 0) (((Ty.int IntKind.i64).pair ((Ty.int IntKind.i64).pair ((Ty.int IntKind.i64).pair ((Ty.int IntKind.i64).pair (Ty.int IntKind.i64))))).pair (Ty.int IntKind.i64)).dflt).fst.snd.fst, (x.snd.getD (Int.toNat 0) (((Ty.int IntKind.i64).pair ((Ty.int IntKind.i64).pair ((Ty.int IntKind.i64).pair ((Ty.int IntKind.i64).pair (Ty.int IntKind.i64))))).pair (Ty.int IntKind.i64)).dflt).fst.snd.snd.fst, (x.snd.getD (Int.toNat 0) (((Ty.int IntKind.i64).pair ((Ty.int IntKind.i64).pair ((Ty.int IntKind.i64).pair ((Ty.int IntKind.i64).pair (Ty.int IntKind.i64))))).pair (Ty.int IntKind.i64)).dflt).fst.snd.snd.snd.fst, (x.snd.getD (Int.toNat 0) (((Ty.int IntKind.i64).pair ((Ty.int IntKind.i64).pair ((Ty.int IntKind.i64).pair ((Ty.int IntKind.i64).pair (Ty.int IntKind.i64))))).pair (Ty.int IntKind.i64)).dflt).fst.snd.snd.snd.snd), (x.snd.getD (Int.toNat 0) (((Ty.int IntKind.i64).pair ((Ty.int IntKind.i64).pair ((Ty.int IntKind.i64).pair ((Ty.int IntKind.i64).pair (Ty.int IntKind.i64))))).pair (Ty.int IntKind.i64)).dflt).snd))).bind fun t0 => (if 0 ≤ wrap64 (Int.ofNat t0.snd.snd.length - 1) ∧ wrap64 (Int.ofNat t0.snd.snd.length - 1) < Int.ofNat t0.snd.snd.length then (if 0 ≤ wrap64 (Int.ofNat t0.snd.snd.length - 1) then (if wrap64 (Int.ofNat t0.snd.snd.length - 1) ≤ Int.ofNat t0.snd.snd.length then some ((x.snd.getD (Int.toNat 0) (((Ty.int IntKind.i64).pair ((Ty.int IntKind.i64).pair ((Ty.int IntKind.i64).pair ((Ty.int IntKind.i64).pair (Ty.int IntKind.i64))))).pair (Ty.int IntKind.i64)).dflt).fst.fst, (x.snd.getD (Int.toNat 0) (((Ty.int IntKind.i64).pair ((Ty.int IntKind.i64).pair ((Ty.int IntKind.i64).pair ((Ty.int IntKind.i64).pair (Ty.int IntKind.i64))))).pair (Ty.int IntKind.i64)).dflt).fst.snd.fst, (x.snd.getD (Int.toNat 0) (((Ty.int IntKind.i64).pair ((Ty.int IntKind.i64).pair ((Ty.int IntKind.i64).pair ((Ty.int IntKind.i64).pair (Ty.int IntKind.i64))))).pair (Ty.int IntKind.i64)).dflt).fst.snd.snd.fst, (x.snd.getD (Int.toNat 0) (((Ty.int IntKind.i64).pair ((Ty.int IntKind.i64).pair ((Ty.int IntKind.i64).pair ((Ty.int IntKind.i64).pair (Ty.int IntKind.i64))))).pair (Ty.int IntKind.i64)).dflt).fst.snd.snd.snd.fst, (x.snd.getD (Int.toNat 0) (((Ty.int IntKind.i64).pair ((Ty.int IntKind.i64).pair ((Ty.int IntKind.i64).pair ((Ty.int IntKind.i64).pair (Ty.int IntKind.i64))))).pair (Ty.int IntKind.i64)).dflt).fst.snd.snd.snd.snd, true, t0.snd.fst, List.take (wrap64 (Int.ofNat t0.snd.snd.length - 1)).toNat t0.snd.snd) else none) else none) else none)) else none) else none) else none) else none) else none))
set_option maxRecDepth 100000 in
theorem agenda_Agenda_Take.f_eq (x : agenda_Agenda_Take.X) : (walk Try.prog (ctOf tab_S2) (ltOf lt_S2) 100000 12 (agenda_Agenda_Take.k.tm.vals (agenda_Agenda_Take.encX x)) (agenda_Agenda_Take.k.tm.heap (agenda_Agenda_Take.encX x)) agenda_Agenda_Take.k.tm.n).strip.opt agenda_Agenda_Take.k.leaf = agenda_Agenda_Take.f x := by kernel_rfl
set_option maxRecDepth 100000 in
theorem agenda_Agenda_Take.f_fix (x : agenda_Agenda_Take.X) : (walk Try.prog (ctOf tab_S2) (ltOf lt_S2) 100000 12 (agenda_Agenda_Take.k.tm.vals (agenda_Agenda_Take.encX x)) (agenda_Agenda_Take.k.tm.heap (agenda_Agenda_Take.encX x)) agenda_Agenda_Take.k.tm.n).fixed = walk Try.prog (ctOf tab_S2) (ltOf lt_S2) 100000 12 (agenda_Agenda_Take.k.tm.vals (agenda_Agenda_Take.encX x)) (agenda_Agenda_Take.k.tm.heap (agenda_Agenda_Take.encX x)) agenda_Agenda_Take.k.tm.n := by kernel_rfl
noncomputable def agenda_Agenda_Take.c : Entry := markW (agenda_Agenda_Take.k.c agenda_Agenda_Take.f)
theorem agenda_Agenda_Take.ok : EntryOK Try.prog 12 agenda_Agenda_Take.c := markW_ok (fk_ok named mixed tab_S2_ok.ct lt_S2_ok agenda_Agenda_Take.k_ok agenda_Agenda_Take.f_fix agenda_Agenda_Take.f_eq)
noncomputable def t_agenda_Agenda_Take : List (Nat × Entry) := (12, agenda_Agenda_Take.c) :: tab_S2
theorem t_agenda_Agenda_Take_ok : TabOK Try.prog t_agenda_Agenda_Take := TabOK.cons agenda_Agenda_Take.ok tab_S2_ok
noncomputable abbrev tab_S3 : List (Nat × Entry) := t_agenda_Agenda_Take
theorem tab_S3_ok : TabOK Try.prog tab_S3 := t_agenda_Agenda_Take_ok
noncomputable abbrev lt_S3 : List (Nat × Nat × LC) := lt_S2
theorem lt_S3_ok : LtOK Try.prog (ltOf lt_S3) := lt_S2_ok
end
end Go.Proofs.Ytgkheobpnjmgdaa.S
