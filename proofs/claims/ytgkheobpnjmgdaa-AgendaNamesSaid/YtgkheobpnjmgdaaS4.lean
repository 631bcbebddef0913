/- Contracts by the symbolic walk: agenda_Agenda_turns_1, agenda_Agenda_Until. -/
import Derived.Test.YtgkheobpnjmgdaaProg
import Derived.Test.YtgkheobpnjmgdaaSXo
import Derived.Test.YtgkheobpnjmgdaaS3
namespace Go.Proofs.Ytgkheobpnjmgdaa.S
open Go Go.RowKit Go.Proofs.Ytgkheobpnjmgdaa.SX Go.Proofs
set_option linter.unusedVariables false
noncomputable section
abbrev agenda_Agenda_turns_1.X0 : Type := Int × (List (Int × Int × Int × Int × Int)) × Int × (List ((Int × Int × Int × Int × Int) × Int))
def agenda_Agenda_turns_1.decX0 : List AV → Option agenda_Agenda_turns_1.X0
  | [y0, y1, y2, y3] => (dI .i64 y0).bind fun n0 => (dL (.pair (.int .i64) (.pair (.int .i64) (.pair (.int .i64) (.pair (.int .i64) (.int .i64))))) y1).bind fun n1 => (dI .i64 y2).bind fun n2 => (dL (.pair (.pair (.int .i64) (.pair (.int .i64) (.pair (.int .i64) (.pair (.int .i64) (.int .i64))))) (.int .i64)) y3).bind fun n3 => some (n0, n1, n2, n3)
  | _ => none
def agenda_Agenda_turns_1.encX0 (x : agenda_Agenda_turns_1.X0) : List AV := [.int .i64 (.s x.1), .ro (.pair (.int .i64) (.pair (.int .i64) (.pair (.int .i64) (.pair (.int .i64) (.int .i64))))) x.2.1, .int .i64 (.s x.2.2.1), .ro (.pair (.pair (.int .i64) (.pair (.int .i64) (.pair (.int .i64) (.pair (.int .i64) (.int .i64))))) (.int .i64)) x.2.2.2]
theorem agenda_Agenda_turns_1.decX0_ok (ys : List AV) (x : agenda_Agenda_turns_1.X0) (h : agenda_Agenda_turns_1.decX0 ys = some x) : Ptw ys (agenda_Agenda_turns_1.encX0 x) := by
  unfold agenda_Agenda_turns_1.decX0 at h
  split at h
  · obtain ⟨n0, e0, h⟩ := Option.bind_eq_some_iff.1 h
    obtain ⟨n1, e1, h⟩ := Option.bind_eq_some_iff.1 h
    obtain ⟨n2, e2, h⟩ := Option.bind_eq_some_iff.1 h
    obtain ⟨n3, e3, h⟩ := Option.bind_eq_some_iff.1 h
    cases h
    exact ⟨dI_p e0, ⟨dL_ok e1, ⟨dI_p e2, ⟨dL_ok e3, trivial⟩⟩⟩⟩
  · cases h
abbrev agenda_Agenda_turns_1.Y0 : Type := Int × (List (Int × Int × Int × Int × Int)) × Int × (List ((Int × Int × Int × Int × Int) × Int))
def agenda_Agenda_turns_1.decY0 : List AV → Option agenda_Agenda_turns_1.Y0
  | [y0, y1, y2, y3] => (dI .i64 y0).bind fun n0 => (dL (.pair (.int .i64) (.pair (.int .i64) (.pair (.int .i64) (.pair (.int .i64) (.int .i64))))) y1).bind fun n1 => (dI .i64 y2).bind fun n2 => (dL (.pair (.pair (.int .i64) (.pair (.int .i64) (.pair (.int .i64) (.pair (.int .i64) (.int .i64))))) (.int .i64)) y3).bind fun n3 => some (n0, n1, n2, n3)
  | _ => none
def agenda_Agenda_turns_1.encY0 (x : agenda_Agenda_turns_1.Y0) : List AV := [.int .i64 (.s x.1), .ro (.pair (.int .i64) (.pair (.int .i64) (.pair (.int .i64) (.pair (.int .i64) (.int .i64))))) x.2.1, .int .i64 (.s x.2.2.1), .ro (.pair (.pair (.int .i64) (.pair (.int .i64) (.pair (.int .i64) (.pair (.int .i64) (.int .i64))))) (.int .i64)) x.2.2.2]
theorem agenda_Agenda_turns_1.decY0_ok (ys : List AV) (x : agenda_Agenda_turns_1.Y0) (h : agenda_Agenda_turns_1.decY0 ys = some x) : Ptw ys (agenda_Agenda_turns_1.encY0 x) := by
  unfold agenda_Agenda_turns_1.decY0 at h
  split at h
  · obtain ⟨n0, e0, h⟩ := Option.bind_eq_some_iff.1 h
    obtain ⟨n1, e1, h⟩ := Option.bind_eq_some_iff.1 h
    obtain ⟨n2, e2, h⟩ := Option.bind_eq_some_iff.1 h
    obtain ⟨n3, e3, h⟩ := Option.bind_eq_some_iff.1 h
    cases h
    exact ⟨dI_p e0, ⟨dL_ok e1, ⟨dI_p e2, ⟨dL_ok e3, trivial⟩⟩⟩⟩
  · cases h
noncomputable def agenda_Agenda_turns_1.tm0 : Templ := { keys := [0, 1], roots := [.yld 6, .ptr 4 0], ylds := [], H := [(6, .loop 19 .ready (none) (szOf Try.prog 19) [5, 3, 4] [.ptr 3 0, .ptr 2 0, .nilSl] (rangeOf Try.prog 19 0).1 (rangeOf Try.prog 19 0).2.1 (rangeOf Try.prog 19 0).2.2 5), (5, .mark), (4, .cells 43 [.ptr 0 0]), (3, .cells 22 [.own 7]), (2, .cells 2 [.hole]), (7, .vec 32 (.pair (.int .i64) (.pair (.int .i64) (.pair (.int .i64) (.pair (.int .i64) (.int .i64))))) true), (0, .cells 30 [.own 1, .hole]), (1, .vec 64 (.pair (.pair (.int .i64) (.pair (.int .i64) (.pair (.int .i64) (.pair (.int .i64) (.int .i64))))) (.int .i64)) true)], n := 8, stay := [0, 2, 3, 4, 5, 6] }
noncomputable def agenda_Agenda_turns_1.tr0 : Templ := { keys := [], roots := [], ylds := [], H := [(6, .loop 19 .ready (none) (szOf Try.prog 19) [5, 3, 4] [.ptr 3 0, .ptr 2 0, .nilSl] (rangeOf Try.prog 19 0).1 (rangeOf Try.prog 19 0).2.1 (rangeOf Try.prog 19 0).2.2 5), (5, .mark), (4, .cells 43 [.ptr 0 0]), (3, .cells 22 [.own 7]), (2, .cells 2 [.hole]), (7, .vec 32 (.pair (.int .i64) (.pair (.int .i64) (.pair (.int .i64) (.pair (.int .i64) (.int .i64))))) true), (0, .cells 30 [.own 1, .hole]), (1, .vec 64 (.pair (.pair (.int .i64) (.pair (.int .i64) (.pair (.int .i64) (.pair (.int .i64) (.int .i64))))) (.int .i64)) true)], n := 8, stay := [0, 2, 3, 4, 5, 6] }
abbrev agenda_Agenda_turns_1.Z0 : Type := Int × (List (Int × Int × Int × Int × Int)) × Int × (List ((Int × Int × Int × Int × Int) × Int))
def agenda_Agenda_turns_1.decZ0 : List AV → Option agenda_Agenda_turns_1.Z0
  | [y0, y1, y2, y3] => (dI .i64 y0).bind fun n0 => (dL (.pair (.int .i64) (.pair (.int .i64) (.pair (.int .i64) (.pair (.int .i64) (.int .i64))))) y1).bind fun n1 => (dI .i64 y2).bind fun n2 => (dL (.pair (.pair (.int .i64) (.pair (.int .i64) (.pair (.int .i64) (.pair (.int .i64) (.int .i64))))) (.int .i64)) y3).bind fun n3 => some (n0, n1, n2, n3)
  | _ => none
def agenda_Agenda_turns_1.encZ0 (x : agenda_Agenda_turns_1.Z0) : List AV := [.int .i64 (.s x.1), .ro (.pair (.int .i64) (.pair (.int .i64) (.pair (.int .i64) (.pair (.int .i64) (.int .i64))))) x.2.1, .int .i64 (.s x.2.2.1), .ro (.pair (.pair (.int .i64) (.pair (.int .i64) (.pair (.int .i64) (.pair (.int .i64) (.int .i64))))) (.int .i64)) x.2.2.2]
theorem agenda_Agenda_turns_1.decZ0_ok (ys : List AV) (x : agenda_Agenda_turns_1.Z0) (h : agenda_Agenda_turns_1.decZ0 ys = some x) : Ptw ys (agenda_Agenda_turns_1.encZ0 x) := by
  unfold agenda_Agenda_turns_1.decZ0 at h
  split at h
  · obtain ⟨n0, e0, h⟩ := Option.bind_eq_some_iff.1 h
    obtain ⟨n1, e1, h⟩ := Option.bind_eq_some_iff.1 h
    obtain ⟨n2, e2, h⟩ := Option.bind_eq_some_iff.1 h
    obtain ⟨n3, e3, h⟩ := Option.bind_eq_some_iff.1 h
    cases h
    exact ⟨dI_p e0, ⟨dL_ok e1, ⟨dI_p e2, ⟨dL_ok e3, trivial⟩⟩⟩⟩
  · cases h
noncomputable def agenda_Agenda_turns_1.ts0 : Templ := { keys := [], roots := [], ylds := [], H := [(6, .loop 19 .done (some (some 0)) (szOf Try.prog 19) [5, 3, 4] [.ptr 3 0, .ptr 2 0, .nilSl] (rangeOf Try.prog 19 0).1 (rangeOf Try.prog 19 0).2.1 (rangeOf Try.prog 19 0).2.2 5), (5, .mark), (4, .cells 43 [.ptr 0 0]), (3, .cells 22 [.own 7]), (2, .cells 2 [.hole]), (7, .vec 32 (.pair (.int .i64) (.pair (.int .i64) (.pair (.int .i64) (.pair (.int .i64) (.int .i64))))) true), (0, .cells 30 [.own 1, .hole]), (1, .vec 64 (.pair (.pair (.int .i64) (.pair (.int .i64) (.pair (.int .i64) (.pair (.int .i64) (.int .i64))))) (.int .i64)) true)], n := 8, stay := [0, 2, 3, 4, 5, 6] }
noncomputable def agenda_Agenda_turns_1.b0 : Code := loopOf Try.prog 39 0
noncomputable def agenda_Agenda_turns_1.k0 : LK agenda_Agenda_turns_1.X0 (agenda_Agenda_turns_1.Y0 ⊕ agenda_Agenda_turns_1.Z0) := .two 39 (szOf Try.prog 39) false agenda_Agenda_turns_1.tm0 agenda_Agenda_turns_1.tr0 agenda_Agenda_turns_1.ts0 agenda_Agenda_turns_1.decX0 agenda_Agenda_turns_1.encX0 agenda_Agenda_turns_1.decY0 agenda_Agenda_turns_1.encY0 agenda_Agenda_turns_1.decZ0 agenda_Agenda_turns_1.encZ0
theorem agenda_Agenda_turns_1.k0_ok : agenda_Agenda_turns_1.k0.OK := LK.two_ok agenda_Agenda_turns_1.decX0_ok agenda_Agenda_turns_1.decY0_ok agenda_Agenda_turns_1.decZ0_ok (by show ∀ j ∈ ([0, 2, 3, 4, 5, 6] : List Nat), j < 8; decide) (by show ∀ j ∈ ([] : List Nat), j ∈ ([0, 2, 3, 4, 5, 6] : List Nat); decide) rfl rfl
def agenda_Agenda_turns_1.step0 (x : agenda_Agenda_turns_1.X0) : Option (agenda_Agenda_turns_1.X0 ⊕ (agenda_Agenda_turns_1.X0 ⊕ (agenda_Agenda_turns_1.Y0 ⊕ agenda_Agenda_turns_1.Z0))) :=
  (if Int.ofNat x.snd.snd.snd.length = 0 then some (Sum.inr (Sum.inr (Sum.inl (x.fst, x.snd.fst, x.snd.snd.fst, x.snd.snd.snd)))) else (if (0 : Int) ≤ (0 : Int) ∧ (0 : Int) < Int.ofNat x.snd.snd.snd.length then (if (x.snd.snd.snd.getD (Int.toNat 0) (((Ty.int IntKind.i64).pair ((Ty.int IntKind.i64).pair ((Ty.int IntKind.i64).pair ((Ty.int IntKind.i64).pair (Ty.int IntKind.i64))))).pair (Ty.int IntKind.i64)).dflt).fst.fst > x.fst then some (Sum.inr (Sum.inr (Sum.inr (x.fst, x.snd.fst, x.snd.snd.fst, x.snd.snd.snd)))) else (if Int.ofNat x.snd.fst.length + 1 ≤ 3432621667203 then ((agenda_Agenda_Take.f (x.snd.snd.fst, x.snd.snd.snd)).bind fun t0 => some (Sum.inl (x.fst, x.snd.fst ++ [((x.snd.snd.snd.getD (Int.toNat 0) (((Ty.int IntKind.i64).pair ((Ty.int IntKind.i64).pair ((Ty.int IntKind.i64).pair ((Ty.int IntKind.i64).pair (Ty.int IntKind.i64))))).pair (Ty.int IntKind.i64)).dflt).fst.fst, (x.snd.snd.snd.getD (Int.toNat 0) (((Ty.int IntKind.i64).pair ((Ty.int IntKind.i64).pair ((Ty.int IntKind.i64).pair ((Ty.int IntKind.i64).pair (Ty.int IntKind.i64))))).pair (Ty.int IntKind.i64)).dflt).fst.snd.fst, (x.snd.snd.snd.getD (Int.toNat 0) (((Ty.int IntKind.i64).pair ((Ty.int IntKind.i64).pair ((Ty.int IntKind.i64).pair ((Ty.int IntKind.i64).pair (Ty.int IntKind.i64))))).pair (Ty.int IntKind.i64)).dflt).fst.snd.snd.fst, (x.snd.snd.snd.getD (Int.toNat 0) (((Ty.int IntKind.i64).pair ((Ty.int IntKind.i64).pair ((Ty.int IntKind.i64).pair ((Ty.int IntKind.i64).pair (Ty.int IntKind.i64))))).pair (Ty.int IntKind.i64)).dflt).fst.snd.snd.snd.fst, (x.snd.snd.snd.getD (Int.toNat 0) (((Ty.int IntKind.i64).pair ((Ty.int IntKind.i64).pair ((Ty.int IntKind.i64).pair ((Ty.int IntKind.i64).pair (Ty.int IntKind.i64))))).pair (Ty.int IntKind.i64)).dflt).fst.snd.snd.snd.snd)], t0.snd.snd.snd.snd.snd.snd.fst, t0.snd.snd.snd.snd.snd.snd.snd))) else none)) else none))
set_option maxRecDepth 100000 in
theorem agenda_Agenda_turns_1.step0_eq (x : agenda_Agenda_turns_1.X0) : (roundT Try.prog (ctOf tab_S3) (ltOf lt_S3) 100000 agenda_Agenda_turns_1.k0 0 agenda_Agenda_turns_1.b0 (agenda_Agenda_turns_1.encX0 x)).strip.opt (leafD agenda_Agenda_turns_1.decX0 agenda_Agenda_turns_1.k0.rets) = agenda_Agenda_turns_1.step0 x := by kernel_rfl
set_option maxRecDepth 100000 in
theorem agenda_Agenda_turns_1.step0_fix (x : agenda_Agenda_turns_1.X0) : (roundT Try.prog (ctOf tab_S3) (ltOf lt_S3) 100000 agenda_Agenda_turns_1.k0 0 agenda_Agenda_turns_1.b0 (agenda_Agenda_turns_1.encX0 x)).fixed = roundT Try.prog (ctOf tab_S3) (ltOf lt_S3) 100000 agenda_Agenda_turns_1.k0 0 agenda_Agenda_turns_1.b0 (agenda_Agenda_turns_1.encX0 x) := by kernel_rfl
noncomputable def agenda_Agenda_turns_1.lt0 : List (Nat × Nat × LC) := (39, 0, agenda_Agenda_turns_1.k0.lc agenda_Agenda_turns_1.step0 agenda_Agenda_turns_1.b0) :: lt_S3
theorem agenda_Agenda_turns_1.lt0_ok : LtOK Try.prog (ltOf agenda_Agenda_turns_1.lt0) := ltOf_cons named mixed tab_S3_ok.ct lt_S3_ok agenda_Agenda_turns_1.k0_ok agenda_Agenda_turns_1.step0_fix agenda_Agenda_turns_1.step0_eq lt_S3_ok
abbrev agenda_Agenda_Until.X : Type := Int × Int × (List ((Int × Int × Int × Int × Int) × Int))
def agenda_Agenda_Until.decX : List AV → Option agenda_Agenda_Until.X
  | [y0, y1, y2] => (dI .i64 y0).bind fun n0 => (dI .i64 y1).bind fun n1 => (dL (.pair (.pair (.int .i64) (.pair (.int .i64) (.pair (.int .i64) (.pair (.int .i64) (.int .i64))))) (.int .i64)) y2).bind fun n2 => some (n0, n1, n2)
  | _ => none
def agenda_Agenda_Until.encX (x : agenda_Agenda_Until.X) : List AV := [.int .i64 (.s x.1), .int .i64 (.s x.2.1), .ro (.pair (.pair (.int .i64) (.pair (.int .i64) (.pair (.int .i64) (.pair (.int .i64) (.int .i64))))) (.int .i64)) x.2.2]
theorem agenda_Agenda_Until.decX_ok (ys : List AV) (x : agenda_Agenda_Until.X) (h : agenda_Agenda_Until.decX ys = some x) : Ptw ys (agenda_Agenda_Until.encX x) := by
  unfold agenda_Agenda_Until.decX at h
  split at h
  · obtain ⟨n0, e0, h⟩ := Option.bind_eq_some_iff.1 h
    obtain ⟨n1, e1, h⟩ := Option.bind_eq_some_iff.1 h
    obtain ⟨n2, e2, h⟩ := Option.bind_eq_some_iff.1 h
    cases h
    exact ⟨dI_p e0, ⟨dI_p e1, ⟨dL_ok e2, trivial⟩⟩⟩
  · cases h
abbrev agenda_Agenda_Until.Y : Type := Int × (List ((Int × Int × Int × Int × Int) × Int)) × (List (Int × Int × Int × Int × Int))
def agenda_Agenda_Until.decY : List AV → Option agenda_Agenda_Until.Y
  | [y0, y1, y2] => (dI .i64 y0).bind fun n0 => (dL (.pair (.pair (.int .i64) (.pair (.int .i64) (.pair (.int .i64) (.pair (.int .i64) (.int .i64))))) (.int .i64)) y1).bind fun n1 => (dL (.pair (.int .i64) (.pair (.int .i64) (.pair (.int .i64) (.pair (.int .i64) (.int .i64))))) y2).bind fun n2 => some (n0, n1, n2)
  | _ => none
def agenda_Agenda_Until.encY (x : agenda_Agenda_Until.Y) : List AV := [.int .i64 (.s x.1), .ro (.pair (.pair (.int .i64) (.pair (.int .i64) (.pair (.int .i64) (.pair (.int .i64) (.int .i64))))) (.int .i64)) x.2.1, .ro (.pair (.int .i64) (.pair (.int .i64) (.pair (.int .i64) (.pair (.int .i64) (.int .i64))))) x.2.2]
theorem agenda_Agenda_Until.decY_ok (ys : List AV) (x : agenda_Agenda_Until.Y) (h : agenda_Agenda_Until.decY ys = some x) : Ptw ys (agenda_Agenda_Until.encY x) := by
  unfold agenda_Agenda_Until.decY at h
  split at h
  · obtain ⟨n0, e0, h⟩ := Option.bind_eq_some_iff.1 h
    obtain ⟨n1, e1, h⟩ := Option.bind_eq_some_iff.1 h
    obtain ⟨n2, e2, h⟩ := Option.bind_eq_some_iff.1 h
    cases h
    exact ⟨dI_p e0, ⟨dL_ok e1, ⟨dL_ok e2, trivial⟩⟩⟩
  · cases h
noncomputable def agenda_Agenda_Until.tm : Templ := { keys := [], roots := [.ptr 0 0, .hole], ylds := [], H := [(0, .cells 30 [.own 1, .hole]), (1, .vec 64 (.pair (.pair (.int .i64) (.pair (.int .i64) (.pair (.int .i64) (.pair (.int .i64) (.int .i64))))) (.int .i64)) true)], n := 2, stay := [0] }
noncomputable def agenda_Agenda_Until.tr : Templ := { keys := [], roots := [.own 2], ylds := [], H := [(0, .cells 30 [.own 1, .hole]), (1, .vec 64 (.pair (.pair (.int .i64) (.pair (.int .i64) (.pair (.int .i64) (.pair (.int .i64) (.int .i64))))) (.int .i64)) true), (2, .vec 32 (.pair (.int .i64) (.pair (.int .i64) (.pair (.int .i64) (.pair (.int .i64) (.int .i64))))) true)], n := 3, stay := [0] }
noncomputable def agenda_Agenda_Until.k : FK agenda_Agenda_Until.X agenda_Agenda_Until.Y := ⟨agenda_Agenda_Until.tm, agenda_Agenda_Until.tr, agenda_Agenda_Until.decX, agenda_Agenda_Until.encX, agenda_Agenda_Until.decY, agenda_Agenda_Until.encY⟩
theorem agenda_Agenda_Until.k_ok : agenda_Agenda_Until.k.OK := ⟨agenda_Agenda_Until.decX_ok, agenda_Agenda_Until.decY_ok, (by show ∀ j ∈ ([0] : List Nat), j < 2; decide)⟩
def agenda_Agenda_Until.f (x : agenda_Agenda_Until.X) : Option (agenda_Agenda_Until.Y) :=
  ((guardEq agenda_Agenda_turns_1.b0.loop agenda_Agenda_turns_1.b0.loop (rounds agenda_Agenda_turns_1.step0 (x.fst, [], x.snd.fst, x.snd.snd))).bind fun t0 => (match t0 with | .inl x1 => some (x1.snd.snd.fst, x1.snd.snd.snd, x1.snd.fst) | .inr y1 => (match y1 with | .inl x2 => some (x2.snd.snd.fst, x2.snd.snd.snd, x2.snd.fst) | .inr y2 => some (y2.snd.snd.fst, y2.snd.snd.snd, y2.snd.fst))))
set_option maxRecDepth 100000 in
theorem agenda_Agenda_Until.f_eq (x : agenda_Agenda_Until.X) : (walk Try.prog (ctOf tab_S3) (ltOf agenda_Agenda_turns_1.lt0) 100000 19 (agenda_Agenda_Until.k.tm.vals (agenda_Agenda_Until.encX x)) (agenda_Agenda_Until.k.tm.heap (agenda_Agenda_Until.encX x)) agenda_Agenda_Until.k.tm.n).strip.opt agenda_Agenda_Until.k.leaf = agenda_Agenda_Until.f x := by kernel_rfl
set_option maxRecDepth 100000 in
theorem agenda_Agenda_Until.f_fix (x : agenda_Agenda_Until.X) : (walk Try.prog (ctOf tab_S3) (ltOf agenda_Agenda_turns_1.lt0) 100000 19 (agenda_Agenda_Until.k.tm.vals (agenda_Agenda_Until.encX x)) (agenda_Agenda_Until.k.tm.heap (agenda_Agenda_Until.encX x)) agenda_Agenda_Until.k.tm.n).fixed = walk Try.prog (ctOf tab_S3) (ltOf agenda_Agenda_turns_1.lt0) 100000 19 (agenda_Agenda_Until.k.tm.vals (agenda_Agenda_Until.encX x)) (agenda_Agenda_Until.k.tm.heap (agenda_Agenda_Until.encX x)) agenda_Agenda_Until.k.tm.n := by kernel_rfl
noncomputable def agenda_Agenda_Until.c : Entry := markW (agenda_Agenda_Until.k.c agenda_Agenda_Until.f)
theorem agenda_Agenda_Until.ok : EntryOK Try.prog 19 agenda_Agenda_Until.c := markW_ok (fk_ok named mixed tab_S3_ok.ct agenda_Agenda_turns_1.lt0_ok agenda_Agenda_Until.k_ok agenda_Agenda_Until.f_fix agenda_Agenda_Until.f_eq)
noncomputable def t_agenda_Agenda_Until : List (Nat × Entry) := (19, agenda_Agenda_Until.c) :: tab_S3
theorem t_agenda_Agenda_Until_ok : TabOK Try.prog t_agenda_Agenda_Until := TabOK.cons agenda_Agenda_Until.ok tab_S3_ok
noncomputable abbrev tab_S4 : List (Nat × Entry) := t_agenda_Agenda_Until
theorem tab_S4_ok : TabOK Try.prog tab_S4 := t_agenda_Agenda_Until_ok
noncomputable abbrev lt_S4 : List (Nat × Nat × LC) := agenda_Agenda_turns_1.lt0
theorem lt_S4_ok : LtOK Try.prog (ltOf lt_S4) := agenda_Agenda_turns_1.lt0_ok
end
end Go.Proofs.Ytgkheobpnjmgdaa.S
