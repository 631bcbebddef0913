/- Contracts by the symbolic walk: container_heap_Init, agenda_Agenda_Drop. -/
import Derived.Test.YtgkheobpnjmgdaaProg
import Derived.Test.YtgkheobpnjmgdaaSXo
import Derived.Test.YtgkheobpnjmgdaaS11
namespace Go.Proofs.Ytgkheobpnjmgdaa.S
open Go Go.RowKit Go.Proofs.Ytgkheobpnjmgdaa.SX Go.Proofs
set_option linter.unusedVariables false
noncomputable section
abbrev container_heap_Init.X0 : Type := Int × Int × Int × (List ((Int × Int × Int × Int × Int) × Int))
def container_heap_Init.decX0 : List AV → Option container_heap_Init.X0
  | [y0, y1, y2, y3] => (dI .i64 y0).bind fun n0 => (dI .i64 y1).bind fun n1 => (dI .i64 y2).bind fun n2 => (dL (.pair (.pair (.int .i64) (.pair (.int .i64) (.pair (.int .i64) (.pair (.int .i64) (.int .i64))))) (.int .i64)) y3).bind fun n3 => some (n0, n1, n2, n3)
  | _ => none
def container_heap_Init.encX0 (x : container_heap_Init.X0) : List AV := [.int .i64 (.s x.1), .int .i64 (.s x.2.1), .int .i64 (.s x.2.2.1), .ro (.pair (.pair (.int .i64) (.pair (.int .i64) (.pair (.int .i64) (.pair (.int .i64) (.int .i64))))) (.int .i64)) x.2.2.2]
theorem container_heap_Init.decX0_ok (ys : List AV) (x : container_heap_Init.X0) (h : container_heap_Init.decX0 ys = some x) : Ptw ys (container_heap_Init.encX0 x) := by
  unfold container_heap_Init.decX0 at h
  split at h
  · obtain ⟨n0, e0, h⟩ := Option.bind_eq_some_iff.1 h
    obtain ⟨n1, e1, h⟩ := Option.bind_eq_some_iff.1 h
    obtain ⟨n2, e2, h⟩ := Option.bind_eq_some_iff.1 h
    obtain ⟨n3, e3, h⟩ := Option.bind_eq_some_iff.1 h
    cases h
    exact ⟨dI_p e0, ⟨dI_p e1, ⟨dI_p e2, ⟨dL_ok e3, trivial⟩⟩⟩⟩
  · cases h
abbrev container_heap_Init.Y0 : Type := Unit
def container_heap_Init.decY0 : List AV → Option container_heap_Init.Y0
  | [] => some ()
  | _ => none
def container_heap_Init.encY0 (x : container_heap_Init.Y0) : List AV := []
theorem container_heap_Init.decY0_ok (ys : List AV) (x : container_heap_Init.Y0) (h : container_heap_Init.decY0 ys = some x) : Ptw ys (container_heap_Init.encY0 x) := by
  unfold container_heap_Init.decY0 at h
  split at h
  · cases h
    exact trivial
  · cases h
noncomputable def container_heap_Init.tm0 : Templ := { keys := [0, 2, 3], roots := [.iface 62 (.ptr 0 0), .hole, .hole], ylds := [], H := [(0, .cells 30 [.own 1, .hole]), (1, .vec 64 (.pair (.pair (.int .i64) (.pair (.int .i64) (.pair (.int .i64) (.pair (.int .i64) (.int .i64))))) (.int .i64)) true)], n := 2, stay := [0] }
noncomputable def container_heap_Init.tr0 : Templ := { keys := [], roots := [], ylds := [], H := [], n := 2, stay := [0] }
noncomputable def container_heap_Init.b0 : Code := loopOf Try.prog 36 0
noncomputable def container_heap_Init.k0 : LK container_heap_Init.X0 container_heap_Init.Y0 := .one 36 (szOf Try.prog 36) false container_heap_Init.tm0 container_heap_Init.tr0 container_heap_Init.decX0 container_heap_Init.encX0 container_heap_Init.decY0 container_heap_Init.encY0
theorem container_heap_Init.k0_ok : container_heap_Init.k0.OK := LK.one_ok container_heap_Init.decX0_ok container_heap_Init.decY0_ok (by show ∀ j ∈ ([0] : List Nat), j < 2; decide) (by show ∀ j ∈ ([] : List Nat), j ∈ ([0] : List Nat); decide) rfl
def container_heap_Init.step0 (x : container_heap_Init.X0) : Option (container_heap_Init.X0 ⊕ (container_heap_Init.X0 ⊕ container_heap_Init.Y0)) :=
  (if x.snd.fst ≥ 0 then ((container_heap_down.f (x.snd.fst, x.fst, x.snd.snd.fst, x.snd.snd.snd)).bind fun t0 => some (Sum.inl (x.fst, wrap64 (x.snd.fst - 1), t0.snd.fst, t0.snd.snd))) else some (Sum.inr (Sum.inl (x.fst, x.snd.fst, x.snd.snd.fst, x.snd.snd.snd))))
set_option maxRecDepth 100000 in
theorem container_heap_Init.step0_eq (x : container_heap_Init.X0) : (roundT Try.prog (ctOf tab_S11) (ltOf lt_S11) 100000 container_heap_Init.k0 0 container_heap_Init.b0 (container_heap_Init.encX0 x)).strip.opt (leafD container_heap_Init.decX0 container_heap_Init.k0.rets) = container_heap_Init.step0 x := by kernel_rfl
set_option maxRecDepth 100000 in
theorem container_heap_Init.step0_fix (x : container_heap_Init.X0) : (roundT Try.prog (ctOf tab_S11) (ltOf lt_S11) 100000 container_heap_Init.k0 0 container_heap_Init.b0 (container_heap_Init.encX0 x)).fixed = roundT Try.prog (ctOf tab_S11) (ltOf lt_S11) 100000 container_heap_Init.k0 0 container_heap_Init.b0 (container_heap_Init.encX0 x) := by kernel_rfl
noncomputable def container_heap_Init.lt0 : List (Nat × Nat × LC) := (36, 0, container_heap_Init.k0.lc container_heap_Init.step0 container_heap_Init.b0) :: lt_S11
theorem container_heap_Init.lt0_ok : LtOK Try.prog (ltOf container_heap_Init.lt0) := ltOf_cons named mixed tab_S11_ok.ct lt_S11_ok container_heap_Init.k0_ok container_heap_Init.step0_fix container_heap_Init.step0_eq lt_S11_ok
abbrev agenda_Agenda_Drop.X : Type := Int × Int × Int × (List ((Int × Int × Int × Int × Int) × Int))
def agenda_Agenda_Drop.decX : List AV → Option agenda_Agenda_Drop.X
  | [y0, y1, y2, y3] => (dI .i64 y0).bind fun n0 => (dI .i64 y1).bind fun n1 => (dI .i64 y2).bind fun n2 => (dL (.pair (.pair (.int .i64) (.pair (.int .i64) (.pair (.int .i64) (.pair (.int .i64) (.int .i64))))) (.int .i64)) y3).bind fun n3 => some (n0, n1, n2, n3)
  | _ => none
def agenda_Agenda_Drop.encX (x : agenda_Agenda_Drop.X) : List AV := [.int .i64 (.s x.1), .int .i64 (.s x.2.1), .int .i64 (.s x.2.2.1), .ro (.pair (.pair (.int .i64) (.pair (.int .i64) (.pair (.int .i64) (.pair (.int .i64) (.int .i64))))) (.int .i64)) x.2.2.2]
theorem agenda_Agenda_Drop.decX_ok (ys : List AV) (x : agenda_Agenda_Drop.X) (h : agenda_Agenda_Drop.decX ys = some x) : Ptw ys (agenda_Agenda_Drop.encX x) := by
  unfold agenda_Agenda_Drop.decX at h
  split at h
  · obtain ⟨n0, e0, h⟩ := Option.bind_eq_some_iff.1 h
    obtain ⟨n1, e1, h⟩ := Option.bind_eq_some_iff.1 h
    obtain ⟨n2, e2, h⟩ := Option.bind_eq_some_iff.1 h
    obtain ⟨n3, e3, h⟩ := Option.bind_eq_some_iff.1 h
    cases h
    exact ⟨dI_p e0, ⟨dI_p e1, ⟨dI_p e2, ⟨dL_ok e3, trivial⟩⟩⟩⟩
  · cases h
abbrev agenda_Agenda_Drop.Y : Type := Int × Int × (List ((Int × Int × Int × Int × Int) × Int))
def agenda_Agenda_Drop.decY : List AV → Option agenda_Agenda_Drop.Y
  | [y0, y1, y2] => (dI .i64 y0).bind fun n0 => (dI .i64 y1).bind fun n1 => (dL (.pair (.pair (.int .i64) (.pair (.int .i64) (.pair (.int .i64) (.pair (.int .i64) (.int .i64))))) (.int .i64)) y2).bind fun n2 => some (n0, n1, n2)
  | _ => none
def agenda_Agenda_Drop.encY (x : agenda_Agenda_Drop.Y) : List AV := [.int .i64 (.s x.1), .int .i64 (.s x.2.1), .ro (.pair (.pair (.int .i64) (.pair (.int .i64) (.pair (.int .i64) (.pair (.int .i64) (.int .i64))))) (.int .i64)) x.2.2]
theorem agenda_Agenda_Drop.decY_ok (ys : List AV) (x : agenda_Agenda_Drop.Y) (h : agenda_Agenda_Drop.decY ys = some x) : Ptw ys (agenda_Agenda_Drop.encY x) := by
  unfold agenda_Agenda_Drop.decY at h
  split at h
  · obtain ⟨n0, e0, h⟩ := Option.bind_eq_some_iff.1 h
    obtain ⟨n1, e1, h⟩ := Option.bind_eq_some_iff.1 h
    obtain ⟨n2, e2, h⟩ := Option.bind_eq_some_iff.1 h
    cases h
    exact ⟨dI_p e0, ⟨dI_p e1, ⟨dL_ok e2, trivial⟩⟩⟩
  · cases h
noncomputable def agenda_Agenda_Drop.tm : Templ := { keys := [], roots := [.ptr 0 0, .hole, .hole], ylds := [], H := [(0, .cells 30 [.own 1, .hole]), (1, .vec 64 (.pair (.pair (.int .i64) (.pair (.int .i64) (.pair (.int .i64) (.pair (.int .i64) (.int .i64))))) (.int .i64)) true)], n := 2, stay := [0] }
noncomputable def agenda_Agenda_Drop.tr : Templ := { keys := [], roots := [.hole], ylds := [], H := [(0, .cells 30 [.own 1, .hole]), (1, .vec 64 (.pair (.pair (.int .i64) (.pair (.int .i64) (.pair (.int .i64) (.pair (.int .i64) (.int .i64))))) (.int .i64)) true)], n := 2, stay := [0] }
noncomputable def agenda_Agenda_Drop.k : FK agenda_Agenda_Drop.X agenda_Agenda_Drop.Y := ⟨agenda_Agenda_Drop.tm, agenda_Agenda_Drop.tr, agenda_Agenda_Drop.decX, agenda_Agenda_Drop.encX, agenda_Agenda_Drop.decY, agenda_Agenda_Drop.encY⟩
theorem agenda_Agenda_Drop.k_ok : agenda_Agenda_Drop.k.OK := ⟨agenda_Agenda_Drop.decX_ok, agenda_Agenda_Drop.decY_ok, (by show ∀ j ∈ ([0] : List Nat), j < 2; decide)⟩
def agenda_Agenda_Drop.f (x : agenda_Agenda_Drop.X) : Option (agenda_Agenda_Drop.Y) :=
  (if Int.ofNat x.snd.snd.snd.length = 0 then some (0, x.snd.snd.fst, x.snd.snd.snd) else ((slices_Clone_agenda_entry_agenda_entry.f x.snd.snd.snd).bind fun t0 => ((guardEq slices_IndexFunc_agenda_entry_agenda_entry.b0.loop slices_IndexFunc_agenda_entry_agenda_entry.b0.loop (rounds slices_IndexFunc_agenda_entry_agenda_entry.step0 (0, Int.ofNat (List.length t0), x.fst, x.snd.fst, t0))).bind fun t1 => (match t1 with | .inl x2 => ((guardEq container_heap_Init.b0.loop container_heap_Init.b0.loop (rounds container_heap_Init.step0 (Int.ofNat x2.snd.snd.snd.snd.length, wrap64 (wrap64 ((Int.ofNat x2.snd.snd.snd.snd.length).tdiv 2) - 1), x.snd.snd.fst, x2.snd.snd.snd.snd))).bind fun t3 => (match t3 with | .inl x4 => some (wrap64 (Int.ofNat x.snd.snd.snd.length - Int.ofNat x4.snd.snd.snd.length), x4.snd.snd.fst, x4.snd.snd.snd) | .inr y4 => none)) | .inr y2 => (if y2.fst = -1 then ((guardEq container_heap_Init.b0.loop container_heap_Init.b0.loop (rounds container_heap_Init.step0 (Int.ofNat y2.snd.snd.snd.length, wrap64 (wrap64 ((Int.ofNat y2.snd.snd.snd.length).tdiv 2) - 1), x.snd.snd.fst, y2.snd.snd.snd))).bind fun t3 => (match t3 with | .inl x4 => some (wrap64 (Int.ofNat x.snd.snd.snd.length - Int.ofNat x4.snd.snd.snd.length), x4.snd.snd.fst, x4.snd.snd.snd) | .inr y4 => none)) else ((guardEq slices_DeleteFunc_agenda_entry_agenda_entry.b0.loop slices_DeleteFunc_agenda_entry_agenda_entry.b0.loop (rounds slices_DeleteFunc_agenda_entry_agenda_entry.step0 (y2.fst, wrap64 (y2.fst + 1), y2.snd.fst, y2.snd.snd.fst, y2.snd.snd.snd))).bind fun t3 => (match t3 with | .inl x4 => (if 0 ≤ x4.fst then (if x4.fst ≤ Int.ofNat x4.snd.snd.snd.snd.length then (if 0 ≤ x4.fst then (if x4.fst ≤ Int.ofNat x4.snd.snd.snd.snd.length then ((guardEq container_heap_Init.b0.loop container_heap_Init.b0.loop (rounds container_heap_Init.step0 (x4.fst, wrap64 (wrap64 (x4.fst.tdiv 2) - 1), x.snd.snd.fst, List.take x4.fst.toNat (List.take x4.fst.toNat x4.snd.snd.snd.snd ++ (List.replicate ((Int.ofNat x4.snd.snd.snd.snd.length).toNat - x4.fst.toNat) ((0, 0, 0, 0, 0), 0) ++ List.drop (Int.ofNat x4.snd.snd.snd.snd.length).toNat x4.snd.snd.snd.snd))))).bind fun t5 => (match t5 with | .inl x6 => some (wrap64 (Int.ofNat x.snd.snd.snd.length - Int.ofNat x6.snd.snd.snd.length), x6.snd.snd.fst, x6.snd.snd.snd) | .inr y6 => none)) else none) else none) else none) else none) | .inr y4 => none)))))))
set_option maxRecDepth 100000 in
theorem agenda_Agenda_Drop.f_eq (x : agenda_Agenda_Drop.X) : (walk Try.prog (ctOf tab_S11) (ltOf container_heap_Init.lt0) 100000 22 (agenda_Agenda_Drop.k.tm.vals (agenda_Agenda_Drop.encX x)) (agenda_Agenda_Drop.k.tm.heap (agenda_Agenda_Drop.encX x)) agenda_Agenda_Drop.k.tm.n).strip.opt agenda_Agenda_Drop.k.leaf = agenda_Agenda_Drop.f x := by kernel_rfl
set_option maxRecDepth 100000 in
theorem agenda_Agenda_Drop.f_fix (x : agenda_Agenda_Drop.X) : (walk Try.prog (ctOf tab_S11) (ltOf container_heap_Init.lt0) 100000 22 (agenda_Agenda_Drop.k.tm.vals (agenda_Agenda_Drop.encX x)) (agenda_Agenda_Drop.k.tm.heap (agenda_Agenda_Drop.encX x)) agenda_Agenda_Drop.k.tm.n).fixed = walk Try.prog (ctOf tab_S11) (ltOf container_heap_Init.lt0) 100000 22 (agenda_Agenda_Drop.k.tm.vals (agenda_Agenda_Drop.encX x)) (agenda_Agenda_Drop.k.tm.heap (agenda_Agenda_Drop.encX x)) agenda_Agenda_Drop.k.tm.n := by kernel_rfl
noncomputable def agenda_Agenda_Drop.c : Entry := markW (agenda_Agenda_Drop.k.c agenda_Agenda_Drop.f)
theorem agenda_Agenda_Drop.ok : EntryOK Try.prog 22 agenda_Agenda_Drop.c := markW_ok (fk_ok named mixed tab_S11_ok.ct container_heap_Init.lt0_ok agenda_Agenda_Drop.k_ok agenda_Agenda_Drop.f_fix agenda_Agenda_Drop.f_eq)
noncomputable def t_agenda_Agenda_Drop : List (Nat × Entry) := (22, agenda_Agenda_Drop.c) :: tab_S11
theorem t_agenda_Agenda_Drop_ok : TabOK Try.prog t_agenda_Agenda_Drop := TabOK.cons agenda_Agenda_Drop.ok tab_S11_ok
noncomputable abbrev tab_S12 : List (Nat × Entry) := t_agenda_Agenda_Drop
theorem tab_S12_ok : TabOK Try.prog tab_S12 := t_agenda_Agenda_Drop_ok
noncomputable abbrev lt_S12 : List (Nat × Nat × LC) := container_heap_Init.lt0
theorem lt_S12_ok : LtOK Try.prog (ltOf lt_S12) := container_heap_Init.lt0_ok
end
end Go.Proofs.Ytgkheobpnjmgdaa.S
