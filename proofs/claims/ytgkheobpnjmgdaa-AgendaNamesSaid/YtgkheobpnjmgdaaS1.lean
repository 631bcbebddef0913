/- Contracts by the symbolic walk: container_heap_up, agenda_Agenda_Put. -/
import Derived.Test.YtgkheobpnjmgdaaProg
import Derived.Test.YtgkheobpnjmgdaaSXo
import Derived.Test.YtgkheobpnjmgdaaS0
namespace Go.Proofs.Ytgkheobpnjmgdaa.S
open Go Go.RowKit Go.Proofs.Ytgkheobpnjmgdaa.SX Go.Proofs
set_option linter.unusedVariables false
noncomputable section
abbrev container_heap_up.X0 : Type := Int × Int × (List ((Int × Int × Int × Int × Int) × Int))
def container_heap_up.decX0 : List AV → Option container_heap_up.X0
  | [y0, y1, y2] => (dI .i64 y0).bind fun n0 => (dI .i64 y1).bind fun n1 => (dL (.pair (.pair (.int .i64) (.pair (.int .i64) (.pair (.int .i64) (.pair (.int .i64) (.int .i64))))) (.int .i64)) y2).bind fun n2 => some (n0, n1, n2)
  | _ => none
def container_heap_up.encX0 (x : container_heap_up.X0) : List AV := [.int .i64 (.s x.1), .int .i64 (.s x.2.1), .ro (.pair (.pair (.int .i64) (.pair (.int .i64) (.pair (.int .i64) (.pair (.int .i64) (.int .i64))))) (.int .i64)) x.2.2]
theorem container_heap_up.decX0_ok (ys : List AV) (x : container_heap_up.X0) (h : container_heap_up.decX0 ys = some x) : Ptw ys (container_heap_up.encX0 x) := by
  unfold container_heap_up.decX0 at h
  split at h
  · obtain ⟨n0, e0, h⟩ := Option.bind_eq_some_iff.1 h
    obtain ⟨n1, e1, h⟩ := Option.bind_eq_some_iff.1 h
    obtain ⟨n2, e2, h⟩ := Option.bind_eq_some_iff.1 h
    cases h
    exact ⟨dI_p e0, ⟨dI_p e1, ⟨dL_ok e2, trivial⟩⟩⟩
  · cases h
abbrev container_heap_up.Y0 : Type := Unit
def container_heap_up.decY0 : List AV → Option container_heap_up.Y0
  | [] => some ()
  | _ => none
def container_heap_up.encY0 (x : container_heap_up.Y0) : List AV := []
theorem container_heap_up.decY0_ok (ys : List AV) (x : container_heap_up.Y0) (h : container_heap_up.decY0 ys = some x) : Ptw ys (container_heap_up.encY0 x) := by
  unfold container_heap_up.decY0 at h
  split at h
  · cases h
    exact trivial
  · cases h
noncomputable def container_heap_up.tm0 : Templ := { keys := [0, 1], roots := [.iface 62 (.ptr 0 0), .hole], ylds := [], H := [(0, .cells 30 [.own 1, .hole]), (1, .vec 64 (.pair (.pair (.int .i64) (.pair (.int .i64) (.pair (.int .i64) (.pair (.int .i64) (.int .i64))))) (.int .i64)) true)], n := 2, stay := [0, 1] }
noncomputable def container_heap_up.tr0 : Templ := { keys := [], roots := [], ylds := [], H := [], n := 2, stay := [0, 1] }
noncomputable def container_heap_up.b0 : Code := loopOf Try.prog 37 0
noncomputable def container_heap_up.k0 : LK container_heap_up.X0 container_heap_up.Y0 := .one 37 (szOf Try.prog 37) false container_heap_up.tm0 container_heap_up.tr0 container_heap_up.decX0 container_heap_up.encX0 container_heap_up.decY0 container_heap_up.encY0
theorem container_heap_up.k0_ok : container_heap_up.k0.OK := LK.one_ok container_heap_up.decX0_ok container_heap_up.decY0_ok (by show ∀ j ∈ ([0, 1] : List Nat), j < 2; decide) (by show ∀ j ∈ ([] : List Nat), j ∈ ([0, 1] : List Nat); decide) rfl
def container_heap_up.step0 (x : container_heap_up.X0) : Option (container_heap_up.X0 ⊕ (container_heap_up.X0 ⊕ container_heap_up.Y0)) :=
  (if wrap64 ((wrap64 (x.fst - 1)).tdiv 2) = x.fst then some (Sum.inr (Sum.inl (x.fst, x.snd.fst, x.snd.snd))) else (if 0 ≤ x.fst ∧ x.fst < Int.ofNat x.snd.snd.length then (if 0 ≤ wrap64 ((wrap64 (x.fst - 1)).tdiv 2) ∧ wrap64 ((wrap64 (x.fst - 1)).tdiv 2) < Int.ofNat x.snd.snd.length then ((agenda_before.f (x.snd.snd.getD x.fst.toNat (((Ty.int IntKind.i64).pair ((Ty.int IntKind.i64).pair ((Ty.int IntKind.i64).pair ((Ty.int IntKind.i64).pair (Ty.int IntKind.i64))))).pair (Ty.int IntKind.i64)).dflt).fst.fst (x.snd.snd.getD x.fst.toNat (((Ty.int IntKind.i64).pair ((Ty.int IntKind.i64).pair ((Ty.int IntKind.i64).pair ((Ty.int IntKind.i64).pair (Ty.int IntKind.i64))))).pair (Ty.int IntKind.i64)).dflt).fst.snd.fst (x.snd.snd.getD x.fst.toNat (((Ty.int IntKind.i64).pair ((Ty.int IntKind.i64).pair ((Ty.int IntKind.i64).pair ((Ty.int IntKind.i64).pair (Ty.int IntKind.i64))))).pair (Ty.int IntKind.i64)).dflt).fst.snd.snd.fst (x.snd.snd.getD x.fst.toNat (((Ty.int IntKind.i64).pair ((Ty.int IntKind.i64).pair ((Ty.int IntKind.i64).pair ((Ty.int IntKind.i64).pair (Ty.int IntKind.i64))))).pair (Ty.int IntKind.i64)).dflt).fst.snd.snd.snd.fst (x.snd.snd.getD x.fst.toNat (((Ty.int IntKind.i64).pair ((Ty.int IntKind.i64).pair ((Ty.int IntKind.i64).pair ((Ty.int IntKind.i64).pair (Ty.int IntKind.i64))))).pair (Ty.int IntKind.i64)).dflt).fst.snd.snd.snd.snd (x.snd.snd.getD x.fst.toNat (((Ty.int IntKind.i64).pair ((Ty.int IntKind.i64).pair ((Ty.int IntKind.i64).pair ((Ty.int IntKind.i64).pair (Ty.int IntKind.i64))))).pair (Ty.int IntKind.i64)).dflt).snd (x.snd.snd.getD (wrap64 ((wrap64 (x.fst - 1)).tdiv 2)).toNat (((Ty.int IntKind.i64).pair ((Ty.int IntKind.i64).pair ((Ty.int IntKind.i64).pair ((Ty.int IntKind.i64).pair (Ty.int IntKind.i64))))).pair (Ty.int IntKind.i64)).dflt).fst.fst (x.snd.snd.getD (wrap64 ((wrap64 (x.fst - 1)).tdiv 2)).toNat (((Ty.int IntKind.i64).pair ((Ty.int IntKind.i64).pair ((Ty.int IntKind.i64).pair ((Ty.int IntKind.i64).pair (Ty.int IntKind.i64))))).pair (Ty.int IntKind.i64)).dflt).fst.snd.fst (x.snd.snd.getD (wrap64 ((wrap64 (x.fst - 1)).tdiv 2)).toNat (((Ty.int IntKind.i64).pair ((Ty.int IntKind.i64).pair ((Ty.int IntKind.i64).pair ((Ty.int IntKind.i64).pair (Ty.int IntKind.i64))))).pair (Ty.int IntKind.i64)).dflt).fst.snd.snd.fst (x.snd.snd.getD (wrap64 ((wrap64 (x.fst - 1)).tdiv 2)).toNat (((Ty.int IntKind.i64).pair ((Ty.int IntKind.i64).pair ((Ty.int IntKind.i64).pair ((Ty.int IntKind.i64).pair (Ty.int IntKind.i64))))).pair (Ty.int IntKind.i64)).dflt).fst.snd.snd.snd.fst (x.snd.snd.getD (wrap64 ((wrap64 (x.fst - 1)).tdiv 2)).toNat (((Ty.int IntKind.i64).pair ((Ty.int IntKind.i64).pair ((Ty.int IntKind.i64).pair ((Ty.int IntKind.i64).pair (Ty.int IntKind.i64))))).pair (Ty.int IntKind.i64)).dflt).fst.snd.snd.snd.snd (x.snd.snd.getD (wrap64 ((wrap64 (x.fst - 1)).tdiv 2)).toNat (((Ty.int IntKind.i64).pair ((Ty.int IntKind.i64).pair ((Ty.int IntKind.i64).pair ((Ty.int IntKind.i64).pair (Ty.int IntKind.i64))))).pair (Ty.int IntKind.i64)).dflt).snd).bind fun t0 => (if (!decide (t0 < 0)) = true then some (Sum.inr (Sum.inl (x.fst, x.snd.fst, x.snd.snd))) else (if 0 ≤ x.fst ∧ x.fst < Int.ofNat x.snd.snd.length then (if 0 ≤ wrap64 ((wrap64 (x.fst - 1)).tdiv 2) ∧ wrap64 ((wrap64 (x.fst - 1)).tdiv 2) < Int.ofNat x.snd.snd.length then (if 0 ≤ wrap64 ((wrap64 (x.fst - 1)).tdiv 2) ∧ wrap64 ((wrap64 (x.fst - 1)).tdiv 2) < Int.ofNat x.snd.snd.length then (if 0 ≤ x.fst ∧ x.fst < Int.ofNat x.snd.snd.length then some (Sum.inl (wrap64 ((wrap64 (x.fst - 1)).tdiv 2), x.snd.fst, (x.snd.snd.set (wrap64 ((wrap64 (x.fst - 1)).tdiv 2)).toNat (((x.snd.snd.getD x.fst.toNat (((Ty.int IntKind.i64).pair ((Ty.int IntKind.i64).pair ((Ty.int IntKind.i64).pair ((Ty.int IntKind.i64).pair (Ty.int IntKind.i64))))).pair (Ty.int IntKind.i64)).dflt).fst.fst, (x.snd.snd.getD x.fst.toNat (((Ty.int IntKind.i64).pair ((Ty.int IntKind.i64).pair ((Ty.int IntKind.i64).pair ((Ty.int IntKind.i64).pair (Ty.int IntKind.i64))))).pair (Ty.int IntKind.i64)).dflt).fst.snd.fst, (x.snd.snd.getD x.fst.toNat (((Ty.int IntKind.i64).pair ((Ty.int IntKind.i64).pair ((Ty.int IntKind.i64).pair ((Ty.int IntKind.i64).pair (Ty.int IntKind.i64))))).pair (Ty.int IntKind.i64)).dflt).fst.snd.snd.fst, (x.snd.snd.getD x.fst.toNat (((Ty.int IntKind.i64).pair ((Ty.int IntKind.i64).pair ((Ty.int IntKind.i64).pair ((Ty.int IntKind.i64).pair (Ty.int IntKind.i64))))).pair (Ty.int IntKind.i64)).dflt).fst.snd.snd.snd.fst, (x.snd.snd.getD x.fst.toNat (((Ty.int IntKind.i64).pair ((Ty.int IntKind.i64).pair ((Ty.int IntKind.i64).pair ((Ty.int IntKind.i64).pair (Ty.int IntKind.i64))))).pair (Ty.int IntKind.i64)).dflt).fst.snd.snd.snd.snd), (x.snd.snd.getD x.fst.toNat (((Ty.int IntKind.i64).pair ((Ty.int IntKind.i64).pair ((Ty.int IntKind.i64).pair ((Ty.int IntKind.i64).pair (Ty.int IntKind.i64))))).pair (Ty.int IntKind.i64)).dflt).snd)).set x.fst.toNat (((x.snd.snd.getD (wrap64 ((wrap64 (x.fst - 1)).tdiv 2)).toNat (((Ty.int IntKind.i64).pair ((Ty.int IntKind.i64).pair ((Ty.int IntKind.i64).pair ((Ty.int IntKind.i64).pair (Ty.int IntKind.i64))))).pair (Ty.int IntKind.i64)).dflt).fst.fst, (x.snd.snd.getD (wrap64 ((wrap64 (x.fst - 1)).tdiv 2)).toNat (((Ty.int IntKind.i64).pair ((Ty.int IntKind.i64).pair ((Ty.int IntKind.i64).pair ((Ty.int IntKind.i64).pair (Ty.int IntKind.i64))))).pair (Ty.int IntKind.i64)).dflt).fst.snd.fst, (x.snd.snd.getD (wrap64 ((wrap64 (x.fst - 1)).tdiv 2)).toNat (((Ty.int IntKind.i64).pair ((Ty.int IntKind.i64).pair ((Ty.int IntKind.i64).pair ((Ty.int IntKind.i64).pair (Ty.int IntKind.i64))))).pair (Ty.int IntKind.i64)).dflt).fst.snd.snd.fst, (x.snd.snd.getD (wrap64 ((wrap64 (x.fst - 1)).tdiv 2)).toNat (((Ty.int IntKind.i64).pair ((Ty.int IntKind.i64).pair ((Ty.int IntKind.i64).pair ((Ty.int IntKind.i64).pair (Ty.int IntKind.i64))))).pair (Ty.int IntKind.i64)).dflt).fst.snd.snd.snd.fst, (x.snd.snd.getD (wrap64 ((wrap64 (x.fst - 1)).tdiv 2)).toNat (((Ty.int IntKind.i64).pair ((Ty.int IntKind.i64).pair ((Ty.int IntKind.i64).pair ((Ty.int IntKind.i64).pair (Ty.int IntKind.i64))))).pair (Ty.int IntKind.i64)).dflt).fst.snd.snd.snd.snd), (x.snd.snd.getD (wrap64 ((wrap64 (x.fst - 1)).tdiv 2)).toNat (((Ty.int IntKind.i64).pair ((Ty.int IntKind.i64).pair ((Ty.int IntKind.i64).pair ((Ty.int IntKind.i64).pair (Ty.int IntKind.i64))))).pair (Ty.int IntKind.i64)).dflt).snd))) else none) else none) else none) else none))) else none) else none))
set_option maxRecDepth 100000 in
theorem container_heap_up.step0_eq (x : container_heap_up.X0) : (roundT Try.prog (ctOf tab_S0) noL 100000 container_heap_up.k0 0 container_heap_up.b0 (container_heap_up.encX0 x)).strip.opt (leafD container_heap_up.decX0 container_heap_up.k0.rets) = container_heap_up.step0 x := by kernel_rfl
set_option maxRecDepth 100000 in
theorem container_heap_up.step0_fix (x : container_heap_up.X0) : (roundT Try.prog (ctOf tab_S0) noL 100000 container_heap_up.k0 0 container_heap_up.b0 (container_heap_up.encX0 x)).fixed = roundT Try.prog (ctOf tab_S0) noL 100000 container_heap_up.k0 0 container_heap_up.b0 (container_heap_up.encX0 x) := by kernel_rfl
noncomputable def container_heap_up.lt0 : List (Nat × Nat × LC) := (37, 0, container_heap_up.k0.lc container_heap_up.step0 container_heap_up.b0) :: []
theorem container_heap_up.lt0_ok : LtOK Try.prog (ltOf container_heap_up.lt0) := ltOf_cons named mixed tab_S0_ok.ct noL_ok container_heap_up.k0_ok container_heap_up.step0_fix container_heap_up.step0_eq ltOf_nil
abbrev agenda_Agenda_Put.X : Type := Int × Int × Int × Int × Int × Int × (List ((Int × Int × Int × Int × Int) × Int))
def agenda_Agenda_Put.decX : List AV → Option agenda_Agenda_Put.X
  | [y0, y1, y2, y3, y4, y5, y6] => (dI .i64 y0).bind fun n0 => (dI .i64 y1).bind fun n1 => (dI .i64 y2).bind fun n2 => (dI .i64 y3).bind fun n3 => (dI .i64 y4).bind fun n4 => (dI .i64 y5).bind fun n5 => (dL (.pair (.pair (.int .i64) (.pair (.int .i64) (.pair (.int .i64) (.pair (.int .i64) (.int .i64))))) (.int .i64)) y6).bind fun n6 => some (n0, n1, n2, n3, n4, n5, n6)
  | _ => none
def agenda_Agenda_Put.encX (x : agenda_Agenda_Put.X) : List AV := [.int .i64 (.s x.1), .int .i64 (.s x.2.1), .int .i64 (.s x.2.2.1), .int .i64 (.s x.2.2.2.1), .int .i64 (.s x.2.2.2.2.1), .int .i64 (.s x.2.2.2.2.2.1), .ro (.pair (.pair (.int .i64) (.pair (.int .i64) (.pair (.int .i64) (.pair (.int .i64) (.int .i64))))) (.int .i64)) x.2.2.2.2.2.2]
theorem agenda_Agenda_Put.decX_ok (ys : List AV) (x : agenda_Agenda_Put.X) (h : agenda_Agenda_Put.decX ys = some x) : Ptw ys (agenda_Agenda_Put.encX x) := by
  unfold agenda_Agenda_Put.decX at h
  split at h
  · obtain ⟨n0, e0, h⟩ := Option.bind_eq_some_iff.1 h
    obtain ⟨n1, e1, h⟩ := Option.bind_eq_some_iff.1 h
    obtain ⟨n2, e2, h⟩ := Option.bind_eq_some_iff.1 h
    obtain ⟨n3, e3, h⟩ := Option.bind_eq_some_iff.1 h
    obtain ⟨n4, e4, h⟩ := Option.bind_eq_some_iff.1 h
    obtain ⟨n5, e5, h⟩ := Option.bind_eq_some_iff.1 h
    obtain ⟨n6, e6, h⟩ := Option.bind_eq_some_iff.1 h
    cases h
    exact ⟨dI_p e0, ⟨dI_p e1, ⟨dI_p e2, ⟨dI_p e3, ⟨dI_p e4, ⟨dI_p e5, ⟨dL_ok e6, trivial⟩⟩⟩⟩⟩⟩⟩
  · cases h
abbrev agenda_Agenda_Put.Y : Type := Int × Int × (List ((Int × Int × Int × Int × Int) × Int))
def agenda_Agenda_Put.decY : List AV → Option agenda_Agenda_Put.Y
  | [y0, y1, y2] => (dI .i64 y0).bind fun n0 => (dI .i64 y1).bind fun n1 => (dL (.pair (.pair (.int .i64) (.pair (.int .i64) (.pair (.int .i64) (.pair (.int .i64) (.int .i64))))) (.int .i64)) y2).bind fun n2 => some (n0, n1, n2)
  | _ => none
def agenda_Agenda_Put.encY (x : agenda_Agenda_Put.Y) : List AV := [.int .i64 (.s x.1), .int .i64 (.s x.2.1), .ro (.pair (.pair (.int .i64) (.pair (.int .i64) (.pair (.int .i64) (.pair (.int .i64) (.int .i64))))) (.int .i64)) x.2.2]
theorem agenda_Agenda_Put.decY_ok (ys : List AV) (x : agenda_Agenda_Put.Y) (h : agenda_Agenda_Put.decY ys = some x) : Ptw ys (agenda_Agenda_Put.encY x) := by
  unfold agenda_Agenda_Put.decY at h
  split at h
  · obtain ⟨n0, e0, h⟩ := Option.bind_eq_some_iff.1 h
    obtain ⟨n1, e1, h⟩ := Option.bind_eq_some_iff.1 h
    obtain ⟨n2, e2, h⟩ := Option.bind_eq_some_iff.1 h
    cases h
    exact ⟨dI_p e0, ⟨dI_p e1, ⟨dL_ok e2, trivial⟩⟩⟩
  · cases h
noncomputable def agenda_Agenda_Put.tm : Templ := { keys := [], roots := [.ptr 0 0, .agg [.hole, .hole, .hole, .hole, .hole]], ylds := [], H := [(0, .cells 30 [.own 1, .hole]), (1, .vec 64 (.pair (.pair (.int .i64) (.pair (.int .i64) (.pair (.int .i64) (.pair (.int .i64) (.int .i64))))) (.int .i64)) true)], n := 2, stay := [0] }
noncomputable def agenda_Agenda_Put.tr : Templ := { keys := [], roots := [.hole], ylds := [], H := [(0, .cells 30 [.own 1, .hole]), (1, .vec 64 (.pair (.pair (.int .i64) (.pair (.int .i64) (.pair (.int .i64) (.pair (.int .i64) (.int .i64))))) (.int .i64)) true)], n := 2, stay := [0] }
noncomputable def agenda_Agenda_Put.k : FK agenda_Agenda_Put.X agenda_Agenda_Put.Y := ⟨agenda_Agenda_Put.tm, agenda_Agenda_Put.tr, agenda_Agenda_Put.decX, agenda_Agenda_Put.encX, agenda_Agenda_Put.decY, agenda_Agenda_Put.encY⟩
theorem agenda_Agenda_Put.k_ok : agenda_Agenda_Put.k.OK := ⟨agenda_Agenda_Put.decX_ok, agenda_Agenda_Put.decY_ok, (by show ∀ j ∈ ([0] : List Nat), j < 2; decide)⟩
def agenda_Agenda_Put.f (x : agenda_Agenda_Put.X) : Option (agenda_Agenda_Put.Y) :=
  (if x.fst < 0 then some (100, x.snd.snd.snd.snd.snd.fst, x.snd.snd.snd.snd.snd.snd) else (if x.fst > 4294967296 then some (100, x.snd.snd.snd.snd.snd.fst, x.snd.snd.snd.snd.snd.snd) else (if (if x.snd.snd.snd.fst < if x.snd.snd.fst < x.snd.fst then x.snd.snd.fst else x.snd.fst then x.snd.snd.snd.fst else if x.snd.snd.fst < x.snd.fst then x.snd.snd.fst else x.snd.fst) < 0 then some (100, x.snd.snd.snd.snd.snd.fst, x.snd.snd.snd.snd.snd.snd) else (if Int.ofNat x.snd.snd.snd.snd.snd.snd.length = 65536 then some (100, x.snd.snd.snd.snd.snd.fst, x.snd.snd.snd.snd.snd.snd) else (if Int.ofNat x.snd.snd.snd.snd.snd.snd.length + 1 ≤ 2872193639904 then ((guardEq container_heap_up.b0.loop container_heap_up.b0.loop (rounds container_heap_up.step0 (wrap64 (Int.ofNat x.snd.snd.snd.snd.snd.snd.length + 1 - 1), wrap64 (x.snd.snd.snd.snd.snd.fst + 1), x.snd.snd.snd.snd.snd.snd ++ [((x.fst, x.snd.fst, x.snd.snd.fst, x.snd.snd.snd.fst, x.snd.snd.snd.snd.fst), wrap64 (x.snd.snd.snd.snd.snd.fst + 1))]))).bind fun t0 => (match t0 with | .inl x1 => some (0, x1.snd.fst, x1.snd.snd) | .inr y1 => none)) else none)))))
set_option maxRecDepth 100000 in
theorem agenda_Agenda_Put.f_eq (x : agenda_Agenda_Put.X) : (walk Try.prog (ctOf tab_S0) (ltOf container_heap_up.lt0) 100000 11 (agenda_Agenda_Put.k.tm.vals (agenda_Agenda_Put.encX x)) (agenda_Agenda_Put.k.tm.heap (agenda_Agenda_Put.encX x)) agenda_Agenda_Put.k.tm.n).strip.opt agenda_Agenda_Put.k.leaf = agenda_Agenda_Put.f x := by kernel_rfl
set_option maxRecDepth 100000 in
theorem agenda_Agenda_Put.f_fix (x : agenda_Agenda_Put.X) : (walk Try.prog (ctOf tab_S0) (ltOf container_heap_up.lt0) 100000 11 (agenda_Agenda_Put.k.tm.vals (agenda_Agenda_Put.encX x)) (agenda_Agenda_Put.k.tm.heap (agenda_Agenda_Put.encX x)) agenda_Agenda_Put.k.tm.n).fixed = walk Try.prog (ctOf tab_S0) (ltOf container_heap_up.lt0) 100000 11 (agenda_Agenda_Put.k.tm.vals (agenda_Agenda_Put.encX x)) (agenda_Agenda_Put.k.tm.heap (agenda_Agenda_Put.encX x)) agenda_Agenda_Put.k.tm.n := by kernel_rfl
noncomputable def agenda_Agenda_Put.c : Entry := markW (agenda_Agenda_Put.k.c agenda_Agenda_Put.f)
theorem agenda_Agenda_Put.ok : EntryOK Try.prog 11 agenda_Agenda_Put.c := markW_ok (fk_ok named mixed tab_S0_ok.ct container_heap_up.lt0_ok agenda_Agenda_Put.k_ok agenda_Agenda_Put.f_fix agenda_Agenda_Put.f_eq)
noncomputable def t_agenda_Agenda_Put : List (Nat × Entry) := (11, agenda_Agenda_Put.c) :: tab_S0
theorem t_agenda_Agenda_Put_ok : TabOK Try.prog t_agenda_Agenda_Put := TabOK.cons agenda_Agenda_Put.ok tab_S0_ok
noncomputable abbrev tab_S1 : List (Nat × Entry) := t_agenda_Agenda_Put
theorem tab_S1_ok : TabOK Try.prog tab_S1 := t_agenda_Agenda_Put_ok
noncomputable abbrev lt_S1 : List (Nat × Nat × LC) := container_heap_up.lt0
theorem lt_S1_ok : LtOK Try.prog (ltOf lt_S1) := container_heap_up.lt0_ok
end
end Go.Proofs.Ytgkheobpnjmgdaa.S
