/- Contracts by the symbolic walk: holdback_Compare, slices_IndexFunc_api_Message_api_Message, holdback_Hold_Has. -/
import Derived.Test.YtaoplfmaiclfkaaProg
import Derived.Test.YtaoplfmaiclfkaaSXo
import Derived.Test.YtaoplfmaiclfkaaS1
namespace Go.Proofs.Ytaoplfmaiclfkaa.S
open Go Go.RowKit Go.Proofs.Ytaoplfmaiclfkaa.SX Go.Proofs
set_option linter.unusedVariables false
noncomputable section
theorem Bq {α β : Type} {o : Option α} {f : α → Option β} {b : β} (h : o.bind f = some b) : ∃ a, o = some a ∧ f a = some b := Option.bind_eq_some_iff.1 h
abbrev dMs : Ty.El ((Ty.int IntKind.i64).pair ((Ty.int IntKind.i64).pair ((Ty.int IntKind.i64).pair (Ty.int IntKind.u8).sl))) := ((Ty.int IntKind.i64).pair ((Ty.int IntKind.i64).pair ((Ty.int IntKind.i64).pair (Ty.int IntKind.u8).sl))).dflt
abbrev dOp : Ty.El ((Ty.int IntKind.i64).pair (((Ty.int IntKind.i64).pair ((Ty.int IntKind.i64).pair ((Ty.int IntKind.i64).pair (Ty.int IntKind.u8).sl))).pair (Ty.int IntKind.i64))) := ((Ty.int IntKind.i64).pair (((Ty.int IntKind.i64).pair ((Ty.int IntKind.i64).pair ((Ty.int IntKind.i64).pair (Ty.int IntKind.u8).sl))).pair (Ty.int IntKind.i64))).dflt
abbrev holdback_Compare.X : Type := Int × Int × Int × (List (Int)) × Int × Int × Int × (List (Int))
def holdback_Compare.decX : List AV → Option holdback_Compare.X
  | [y0, y1, y2, y3, y4, y5, y6, y7] => (dI .i64 y0).bind fun n0 => (dI .i64 y1).bind fun n1 => (dI .i64 y2).bind fun n2 => (dL (.int .u8) y3).bind fun n3 => (dI .i64 y4).bind fun n4 => (dI .i64 y5).bind fun n5 => (dI .i64 y6).bind fun n6 => (dL (.int .u8) y7).bind fun n7 => some (n0, n1, n2, n3, n4, n5, n6, n7)
  | _ => none
def holdback_Compare.encX (x : holdback_Compare.X) : List AV := [.int .i64 (.s x.1), .int .i64 (.s x.2.1), .int .i64 (.s x.2.2.1), .ro (.int .u8) x.2.2.2.1, .int .i64 (.s x.2.2.2.2.1), .int .i64 (.s x.2.2.2.2.2.1), .int .i64 (.s x.2.2.2.2.2.2.1), .ro (.int .u8) x.2.2.2.2.2.2.2]
theorem holdback_Compare.decX_ok (ys : List AV) (x : holdback_Compare.X) (h : holdback_Compare.decX ys = some x) : Ptw ys (holdback_Compare.encX x) := by
  unfold holdback_Compare.decX at h
  split at h
  · obtain ⟨n0, e0, h⟩ := Bq h
    obtain ⟨n1, e1, h⟩ := Bq h
    obtain ⟨n2, e2, h⟩ := Bq h
    obtain ⟨n3, e3, h⟩ := Bq h
    obtain ⟨n4, e4, h⟩ := Bq h
    obtain ⟨n5, e5, h⟩ := Bq h
    obtain ⟨n6, e6, h⟩ := Bq h
    obtain ⟨n7, e7, h⟩ := Bq h
    cases h
    exact ⟨dI_p e0, ⟨dI_p e1, ⟨dI_p e2, ⟨dL_ok e3, ⟨dI_p e4, ⟨dI_p e5, ⟨dI_p e6, ⟨dL_ok e7, trivial⟩⟩⟩⟩⟩⟩⟩⟩
  · cases h
abbrev holdback_Compare.Y : Type := Int
def holdback_Compare.decY : List AV → Option holdback_Compare.Y
  | [y0] => (dI .i64 y0).bind fun n0 => some (n0)
  | _ => none
def holdback_Compare.encY (x : holdback_Compare.Y) : List AV := [.int .i64 (.s x)]
theorem holdback_Compare.decY_ok (ys : List AV) (x : holdback_Compare.Y) (h : holdback_Compare.decY ys = some x) : Ptw ys (holdback_Compare.encY x) := by
  unfold holdback_Compare.decY at h
  split at h
  · obtain ⟨n0, e0, h⟩ := Bq h
    cases h
    exact ⟨dI_p e0, trivial⟩
  · cases h
noncomputable def holdback_Compare.tm : Templ := { keys := [], roots := [.agg [.hole, .hole, .hole, .hole], .agg [.hole, .hole, .hole, .hole]], ylds := [], H := [], n := 0, stay := [] }
noncomputable def holdback_Compare.tr : Templ := { keys := [], roots := [.hole], ylds := [], H := [], n := 0, stay := [] }
noncomputable def holdback_Compare.k : FK holdback_Compare.X holdback_Compare.Y := ⟨holdback_Compare.tm, holdback_Compare.tr, holdback_Compare.decX, holdback_Compare.encX, holdback_Compare.decY, holdback_Compare.encY⟩
theorem holdback_Compare.k_ok : holdback_Compare.k.OK := ⟨holdback_Compare.decX_ok, holdback_Compare.decY_ok, (by show ∀ j ∈ ([] : List Nat), j < 0; decide)⟩
def holdback_Compare.f (x : holdback_Compare.X) : Option (holdback_Compare.Y) :=
  ((cmp_Compare_int64.f x.1 x.2.2.2.2.1).bind fun t0 => ((cmp_Compare_int.f x.2.1 x.2.2.2.2.2.1).bind fun t1 => ((cmp_Compare_int.f x.2.2.1 x.2.2.2.2.2.2.1).bind fun t2 => (if t0 ≠ 0 then some t0 else (if t1 ≠ 0 then some t1 else (if t2 ≠ 0 then some t2 else some 0))))))
set_option maxRecDepth 100000 in
theorem holdback_Compare.f_eq (x : holdback_Compare.X) : (walk Try.prog (ctOf tab_S1) noL 100000 16 (holdback_Compare.k.tm.vals (holdback_Compare.encX x)) (holdback_Compare.k.tm.heap (holdback_Compare.encX x)) holdback_Compare.k.tm.n).strip.opt holdback_Compare.k.leaf = holdback_Compare.f x := by kernel_rfl
set_option maxRecDepth 100000 in
theorem holdback_Compare.f_fix (x : holdback_Compare.X) : (walk Try.prog (ctOf tab_S1) noL 100000 16 (holdback_Compare.k.tm.vals (holdback_Compare.encX x)) (holdback_Compare.k.tm.heap (holdback_Compare.encX x)) holdback_Compare.k.tm.n).fixed = walk Try.prog (ctOf tab_S1) noL 100000 16 (holdback_Compare.k.tm.vals (holdback_Compare.encX x)) (holdback_Compare.k.tm.heap (holdback_Compare.encX x)) holdback_Compare.k.tm.n := by kernel_rfl
noncomputable def holdback_Compare.c : Entry := markW (holdback_Compare.k.c holdback_Compare.f)
theorem holdback_Compare.ok : EntryOK Try.prog 16 holdback_Compare.c := markW_ok (fk_ok named mixed tab_S1_ok.ct noL_ok holdback_Compare.k_ok holdback_Compare.f_fix holdback_Compare.f_eq)
noncomputable def t_holdback_Compare : List (Nat × Entry) := (16, holdback_Compare.c) :: tab_S1
theorem t_holdback_Compare_ok : TabOK Try.prog t_holdback_Compare := TabOK.cons holdback_Compare.ok tab_S1_ok
abbrev slices_IndexFunc_api_Message_api_Message.X0 : Type := Int × Int × Int × Int × Int × (List (Int)) × (List (Int × Int × Int × (List (Int))))
def slices_IndexFunc_api_Message_api_Message.decX0 : List AV → Option slices_IndexFunc_api_Message_api_Message.X0
  | [y0, y1, y2, y3, y4, y5, y6] => (dI .i64 y0).bind fun n0 => (dI .i64 y1).bind fun n1 => (dI .i64 y2).bind fun n2 => (dI .i64 y3).bind fun n3 => (dI .i64 y4).bind fun n4 => (dL (.int .u8) y5).bind fun n5 => (dL (.pair (.int .i64) (.pair (.int .i64) (.pair (.int .i64) (.sl (.int .u8))))) y6).bind fun n6 => some (n0, n1, n2, n3, n4, n5, n6)
  | _ => none
def slices_IndexFunc_api_Message_api_Message.encX0 (x : slices_IndexFunc_api_Message_api_Message.X0) : List AV := [.int .i64 (.s x.1), .int .i64 (.s x.2.1), .int .i64 (.s x.2.2.1), .int .i64 (.s x.2.2.2.1), .int .i64 (.s x.2.2.2.2.1), .ro (.int .u8) x.2.2.2.2.2.1, .ro (.pair (.int .i64) (.pair (.int .i64) (.pair (.int .i64) (.sl (.int .u8))))) x.2.2.2.2.2.2]
theorem slices_IndexFunc_api_Message_api_Message.decX0_ok (ys : List AV) (x : slices_IndexFunc_api_Message_api_Message.X0) (h : slices_IndexFunc_api_Message_api_Message.decX0 ys = some x) : Ptw ys (slices_IndexFunc_api_Message_api_Message.encX0 x) := by
  unfold slices_IndexFunc_api_Message_api_Message.decX0 at h
  split at h
  · obtain ⟨n0, e0, h⟩ := Bq h
    obtain ⟨n1, e1, h⟩ := Bq h
    obtain ⟨n2, e2, h⟩ := Bq h
    obtain ⟨n3, e3, h⟩ := Bq h
    obtain ⟨n4, e4, h⟩ := Bq h
    obtain ⟨n5, e5, h⟩ := Bq h
    obtain ⟨n6, e6, h⟩ := Bq h
    cases h
    exact ⟨dI_p e0, ⟨dI_p e1, ⟨dI_p e2, ⟨dI_p e3, ⟨dI_p e4, ⟨dL_ok e5, ⟨dL_ok e6, trivial⟩⟩⟩⟩⟩⟩⟩
  · cases h
abbrev slices_IndexFunc_api_Message_api_Message.Y0 : Type := Int × Int × Int × Int × (List (Int)) × (List (Int × Int × Int × (List (Int))))
def slices_IndexFunc_api_Message_api_Message.decY0 : List AV → Option slices_IndexFunc_api_Message_api_Message.Y0
  | [y0, y1, y2, y3, y4, y5] => (dI .i64 y0).bind fun n0 => (dI .i64 y1).bind fun n1 => (dI .i64 y2).bind fun n2 => (dI .i64 y3).bind fun n3 => (dL (.int .u8) y4).bind fun n4 => (dL (.pair (.int .i64) (.pair (.int .i64) (.pair (.int .i64) (.sl (.int .u8))))) y5).bind fun n5 => some (n0, n1, n2, n3, n4, n5)
  | _ => none
def slices_IndexFunc_api_Message_api_Message.encY0 (x : slices_IndexFunc_api_Message_api_Message.Y0) : List AV := [.int .i64 (.s x.1), .int .i64 (.s x.2.1), .int .i64 (.s x.2.2.1), .int .i64 (.s x.2.2.2.1), .ro (.int .u8) x.2.2.2.2.1, .ro (.pair (.int .i64) (.pair (.int .i64) (.pair (.int .i64) (.sl (.int .u8))))) x.2.2.2.2.2]
theorem slices_IndexFunc_api_Message_api_Message.decY0_ok (ys : List AV) (x : slices_IndexFunc_api_Message_api_Message.Y0) (h : slices_IndexFunc_api_Message_api_Message.decY0 ys = some x) : Ptw ys (slices_IndexFunc_api_Message_api_Message.encY0 x) := by
  unfold slices_IndexFunc_api_Message_api_Message.decY0 at h
  split at h
  · obtain ⟨n0, e0, h⟩ := Bq h
    obtain ⟨n1, e1, h⟩ := Bq h
    obtain ⟨n2, e2, h⟩ := Bq h
    obtain ⟨n3, e3, h⟩ := Bq h
    obtain ⟨n4, e4, h⟩ := Bq h
    obtain ⟨n5, e5, h⟩ := Bq h
    cases h
    exact ⟨dI_p e0, ⟨dI_p e1, ⟨dI_p e2, ⟨dI_p e3, ⟨dL_ok e4, ⟨dL_ok e5, trivial⟩⟩⟩⟩⟩⟩
  · cases h
noncomputable def slices_IndexFunc_api_Message_api_Message.tm0 : Templ := { keys := [8, 7, 0, 1], roots := [.hole, .hole, .own 1, .fn 38 [] [.ptr 2 0]], ylds := [], H := [(2, .cells 29 [.hole, .hole, .hole, .hole]), (1, .vec 29 (.pair (.int .i64) (.pair (.int .i64) (.pair (.int .i64) (.sl (.int .u8))))) true)], n := 3, stay := [1, 2] }
noncomputable def slices_IndexFunc_api_Message_api_Message.tr0 : Templ := { keys := [4], roots := [.hole], ylds := [], H := [(2, .cells 29 [.hole, .hole, .hole, .hole]), (1, .vec 29 (.pair (.int .i64) (.pair (.int .i64) (.pair (.int .i64) (.sl (.int .u8))))) true)], n := 3, stay := [1, 2] }
noncomputable def slices_IndexFunc_api_Message_api_Message.b0 : Code := loopOf Try.prog 58 0
noncomputable def slices_IndexFunc_api_Message_api_Message.k0 : LK slices_IndexFunc_api_Message_api_Message.X0 slices_IndexFunc_api_Message_api_Message.Y0 := .one 58 (szOf Try.prog 58) false slices_IndexFunc_api_Message_api_Message.tm0 slices_IndexFunc_api_Message_api_Message.tr0 slices_IndexFunc_api_Message_api_Message.decX0 slices_IndexFunc_api_Message_api_Message.encX0 slices_IndexFunc_api_Message_api_Message.decY0 slices_IndexFunc_api_Message_api_Message.encY0
theorem slices_IndexFunc_api_Message_api_Message.k0_ok : slices_IndexFunc_api_Message_api_Message.k0.OK := LK.one_ok slices_IndexFunc_api_Message_api_Message.decX0_ok slices_IndexFunc_api_Message_api_Message.decY0_ok (by show ∀ j ∈ ([1, 2] : List Nat), j < 3; decide) (by show ∀ j ∈ ([] : List Nat), j ∈ ([1, 2] : List Nat); decide) rfl
def slices_IndexFunc_api_Message_api_Message.step0 (x : slices_IndexFunc_api_Message_api_Message.X0) : Option (slices_IndexFunc_api_Message_api_Message.X0 ⊕ (slices_IndexFunc_api_Message_api_Message.X0 ⊕ slices_IndexFunc_api_Message_api_Message.Y0)) :=
  (if x.1 < x.2.1 then (if 0 ≤ x.1 ∧ x.1 < Int.ofNat x.2.2.2.2.2.2.length then ((holdback_Compare.f ((x.2.2.2.2.2.2.getD x.1.toNat dMs).1, (x.2.2.2.2.2.2.getD x.1.toNat dMs).2.1, (x.2.2.2.2.2.2.getD x.1.toNat dMs).2.2.1, (x.2.2.2.2.2.2.getD x.1.toNat dMs).2.2.2, x.2.2.1, x.2.2.2.1, x.2.2.2.2.1, x.2.2.2.2.2.1)).bind fun t0 => (if t0 = 0 then some (Sum.inr (Sum.inr (x.1, x.2.2.1, x.2.2.2.1, x.2.2.2.2.1, x.2.2.2.2.2.1, x.2.2.2.2.2.2))) else some (Sum.inl (wrap64 (x.1 + 1), x.2.1, x.2.2.1, x.2.2.2.1, x.2.2.2.2.1, x.2.2.2.2.2.1, x.2.2.2.2.2.2)))) else none) else some (Sum.inr (Sum.inl (x.1, x.2.1, x.2.2.1, x.2.2.2.1, x.2.2.2.2.1, x.2.2.2.2.2.1, x.2.2.2.2.2.2))))
set_option maxRecDepth 100000 in
theorem slices_IndexFunc_api_Message_api_Message.step0_eq (x : slices_IndexFunc_api_Message_api_Message.X0) : (roundT Try.prog (ctOf t_holdback_Compare) noL 100000 slices_IndexFunc_api_Message_api_Message.k0 0 slices_IndexFunc_api_Message_api_Message.b0 (slices_IndexFunc_api_Message_api_Message.encX0 x)).strip.opt (leafD slices_IndexFunc_api_Message_api_Message.decX0 slices_IndexFunc_api_Message_api_Message.k0.rets) = slices_IndexFunc_api_Message_api_Message.step0 x := by kernel_rfl
set_option maxRecDepth 100000 in
theorem slices_IndexFunc_api_Message_api_Message.step0_fix (x : slices_IndexFunc_api_Message_api_Message.X0) : (roundT Try.prog (ctOf t_holdback_Compare) noL 100000 slices_IndexFunc_api_Message_api_Message.k0 0 slices_IndexFunc_api_Message_api_Message.b0 (slices_IndexFunc_api_Message_api_Message.encX0 x)).fixed = roundT Try.prog (ctOf t_holdback_Compare) noL 100000 slices_IndexFunc_api_Message_api_Message.k0 0 slices_IndexFunc_api_Message_api_Message.b0 (slices_IndexFunc_api_Message_api_Message.encX0 x) := by kernel_rfl
noncomputable def slices_IndexFunc_api_Message_api_Message.lt0 : List (Nat × Nat × LC) := (58, 0, slices_IndexFunc_api_Message_api_Message.k0.lc slices_IndexFunc_api_Message_api_Message.step0 slices_IndexFunc_api_Message_api_Message.b0) :: []
theorem slices_IndexFunc_api_Message_api_Message.lt0_ok : LtOK Try.prog (ltOf slices_IndexFunc_api_Message_api_Message.lt0) := ltOf_cons named mixed t_holdback_Compare_ok.ct noL_ok slices_IndexFunc_api_Message_api_Message.k0_ok slices_IndexFunc_api_Message_api_Message.step0_fix slices_IndexFunc_api_Message_api_Message.step0_eq ltOf_nil
abbrev holdback_Hold_Has.X : Type := Int × Int × Int × (List (Int)) × Int × Int × Int × Int × Int × Int × Int × Int × Int × Int × Int × Int × Int × Int × Int × Int × (List (Int × Int × Int × (List (Int))))
def holdback_Hold_Has.decX : List AV → Option holdback_Hold_Has.X
  | [y0, y1, y2, y3, y4, y5, y6, y7, y8, y9, y10, y11, y12, y13, y14, y15, y16, y17, y18, y19, y20] => (dI .i64 y0).bind fun n0 => (dI .i64 y1).bind fun n1 => (dI .i64 y2).bind fun n2 => (dL (.int .u8) y3).bind fun n3 => (dI .i64 y4).bind fun n4 => (dI .i64 y5).bind fun n5 => (dI .i64 y6).bind fun n6 => (dI .i64 y7).bind fun n7 => (dI .i64 y8).bind fun n8 => (dI .i64 y9).bind fun n9 => (dI .i64 y10).bind fun n10 => (dI .i64 y11).bind fun n11 => (dI .i64 y12).bind fun n12 => (dI .i64 y13).bind fun n13 => (dI .i64 y14).bind fun n14 => (dI .i64 y15).bind fun n15 => (dI .i64 y16).bind fun n16 => (dI .i64 y17).bind fun n17 => (dI .i64 y18).bind fun n18 => (dI .i64 y19).bind fun n19 => (dL (.pair (.int .i64) (.pair (.int .i64) (.pair (.int .i64) (.sl (.int .u8))))) y20).bind fun n20 => some (n0, n1, n2, n3, n4, n5, n6, n7, n8, n9, n10, n11, n12, n13, n14, n15, n16, n17, n18, n19, n20)
  | _ => none
def holdback_Hold_Has.encX (x : holdback_Hold_Has.X) : List AV := [.int .i64 (.s x.1), .int .i64 (.s x.2.1), .int .i64 (.s x.2.2.1), .ro (.int .u8) x.2.2.2.1, .int .i64 (.s x.2.2.2.2.1), .int .i64 (.s x.2.2.2.2.2.1), .int .i64 (.s x.2.2.2.2.2.2.1), .int .i64 (.s x.2.2.2.2.2.2.2.1), .int .i64 (.s x.2.2.2.2.2.2.2.2.1), .int .i64 (.s x.2.2.2.2.2.2.2.2.2.1), .int .i64 (.s x.2.2.2.2.2.2.2.2.2.2.1), .int .i64 (.s x.2.2.2.2.2.2.2.2.2.2.2.1), .int .i64 (.s x.2.2.2.2.2.2.2.2.2.2.2.2.1), .int .i64 (.s x.2.2.2.2.2.2.2.2.2.2.2.2.2.1), .int .i64 (.s x.2.2.2.2.2.2.2.2.2.2.2.2.2.2.1), .int .i64 (.s x.2.2.2.2.2.2.2.2.2.2.2.2.2.2.2.1), .int .i64 (.s x.2.2.2.2.2.2.2.2.2.2.2.2.2.2.2.2.1), .int .i64 (.s x.2.2.2.2.2.2.2.2.2.2.2.2.2.2.2.2.2.1), .int .i64 (.s x.2.2.2.2.2.2.2.2.2.2.2.2.2.2.2.2.2.2.1), .int .i64 (.s x.2.2.2.2.2.2.2.2.2.2.2.2.2.2.2.2.2.2.2.1), .ro (.pair (.int .i64) (.pair (.int .i64) (.pair (.int .i64) (.sl (.int .u8))))) x.2.2.2.2.2.2.2.2.2.2.2.2.2.2.2.2.2.2.2.2]
theorem holdback_Hold_Has.decX_ok (ys : List AV) (x : holdback_Hold_Has.X) (h : holdback_Hold_Has.decX ys = some x) : Ptw ys (holdback_Hold_Has.encX x) := by
  unfold holdback_Hold_Has.decX at h
  split at h
  · obtain ⟨n0, e0, h⟩ := Bq h
    obtain ⟨n1, e1, h⟩ := Bq h
    obtain ⟨n2, e2, h⟩ := Bq h
    obtain ⟨n3, e3, h⟩ := Bq h
    obtain ⟨n4, e4, h⟩ := Bq h
    obtain ⟨n5, e5, h⟩ := Bq h
    obtain ⟨n6, e6, h⟩ := Bq h
    obtain ⟨n7, e7, h⟩ := Bq h
    obtain ⟨n8, e8, h⟩ := Bq h
    obtain ⟨n9, e9, h⟩ := Bq h
    obtain ⟨n10, e10, h⟩ := Bq h
    obtain ⟨n11, e11, h⟩ := Bq h
    obtain ⟨n12, e12, h⟩ := Bq h
    obtain ⟨n13, e13, h⟩ := Bq h
    obtain ⟨n14, e14, h⟩ := Bq h
    obtain ⟨n15, e15, h⟩ := Bq h
    obtain ⟨n16, e16, h⟩ := Bq h
    obtain ⟨n17, e17, h⟩ := Bq h
    obtain ⟨n18, e18, h⟩ := Bq h
    obtain ⟨n19, e19, h⟩ := Bq h
    obtain ⟨n20, e20, h⟩ := Bq h
    cases h
    exact ⟨dI_p e0, ⟨dI_p e1, ⟨dI_p e2, ⟨dL_ok e3, ⟨dI_p e4, ⟨dI_p e5, ⟨dI_p e6, ⟨dI_p e7, ⟨dI_p e8, ⟨dI_p e9, ⟨dI_p e10, ⟨dI_p e11, ⟨dI_p e12, ⟨dI_p e13, ⟨dI_p e14, ⟨dI_p e15, ⟨dI_p e16, ⟨dI_p e17, ⟨dI_p e18, ⟨dI_p e19, ⟨dL_ok e20, trivial⟩⟩⟩⟩⟩⟩⟩⟩⟩⟩⟩⟩⟩⟩⟩⟩⟩⟩⟩⟩⟩
  · cases h
abbrev holdback_Hold_Has.Y : Type := Bool × Int × Int × Int × Int × Int × Int × Int × Int × Int × Int × Int × Int × Int × Int × Int × Int × (List (Int × Int × Int × (List (Int))))
def holdback_Hold_Has.decY : List AV → Option holdback_Hold_Has.Y
  | [y0, y1, y2, y3, y4, y5, y6, y7, y8, y9, y10, y11, y12, y13, y14, y15, y16, y17] => (dB y0).bind fun n0 => (dI .i64 y1).bind fun n1 => (dI .i64 y2).bind fun n2 => (dI .i64 y3).bind fun n3 => (dI .i64 y4).bind fun n4 => (dI .i64 y5).bind fun n5 => (dI .i64 y6).bind fun n6 => (dI .i64 y7).bind fun n7 => (dI .i64 y8).bind fun n8 => (dI .i64 y9).bind fun n9 => (dI .i64 y10).bind fun n10 => (dI .i64 y11).bind fun n11 => (dI .i64 y12).bind fun n12 => (dI .i64 y13).bind fun n13 => (dI .i64 y14).bind fun n14 => (dI .i64 y15).bind fun n15 => (dI .i64 y16).bind fun n16 => (dL (.pair (.int .i64) (.pair (.int .i64) (.pair (.int .i64) (.sl (.int .u8))))) y17).bind fun n17 => some (n0, n1, n2, n3, n4, n5, n6, n7, n8, n9, n10, n11, n12, n13, n14, n15, n16, n17)
  | _ => none
def holdback_Hold_Has.encY (x : holdback_Hold_Has.Y) : List AV := [.bool (.s x.1), .int .i64 (.s x.2.1), .int .i64 (.s x.2.2.1), .int .i64 (.s x.2.2.2.1), .int .i64 (.s x.2.2.2.2.1), .int .i64 (.s x.2.2.2.2.2.1), .int .i64 (.s x.2.2.2.2.2.2.1), .int .i64 (.s x.2.2.2.2.2.2.2.1), .int .i64 (.s x.2.2.2.2.2.2.2.2.1), .int .i64 (.s x.2.2.2.2.2.2.2.2.2.1), .int .i64 (.s x.2.2.2.2.2.2.2.2.2.2.1), .int .i64 (.s x.2.2.2.2.2.2.2.2.2.2.2.1), .int .i64 (.s x.2.2.2.2.2.2.2.2.2.2.2.2.1), .int .i64 (.s x.2.2.2.2.2.2.2.2.2.2.2.2.2.1), .int .i64 (.s x.2.2.2.2.2.2.2.2.2.2.2.2.2.2.1), .int .i64 (.s x.2.2.2.2.2.2.2.2.2.2.2.2.2.2.2.1), .int .i64 (.s x.2.2.2.2.2.2.2.2.2.2.2.2.2.2.2.2.1), .ro (.pair (.int .i64) (.pair (.int .i64) (.pair (.int .i64) (.sl (.int .u8))))) x.2.2.2.2.2.2.2.2.2.2.2.2.2.2.2.2.2]
theorem holdback_Hold_Has.decY_ok (ys : List AV) (x : holdback_Hold_Has.Y) (h : holdback_Hold_Has.decY ys = some x) : Ptw ys (holdback_Hold_Has.encY x) := by
  unfold holdback_Hold_Has.decY at h
  split at h
  · obtain ⟨n0, e0, h⟩ := Bq h
    obtain ⟨n1, e1, h⟩ := Bq h
    obtain ⟨n2, e2, h⟩ := Bq h
    obtain ⟨n3, e3, h⟩ := Bq h
    obtain ⟨n4, e4, h⟩ := Bq h
    obtain ⟨n5, e5, h⟩ := Bq h
    obtain ⟨n6, e6, h⟩ := Bq h
    obtain ⟨n7, e7, h⟩ := Bq h
    obtain ⟨n8, e8, h⟩ := Bq h
    obtain ⟨n9, e9, h⟩ := Bq h
    obtain ⟨n10, e10, h⟩ := Bq h
    obtain ⟨n11, e11, h⟩ := Bq h
    obtain ⟨n12, e12, h⟩ := Bq h
    obtain ⟨n13, e13, h⟩ := Bq h
    obtain ⟨n14, e14, h⟩ := Bq h
    obtain ⟨n15, e15, h⟩ := Bq h
    obtain ⟨n16, e16, h⟩ := Bq h
    obtain ⟨n17, e17, h⟩ := Bq h
    cases h
    exact ⟨dB_p e0, ⟨dI_p e1, ⟨dI_p e2, ⟨dI_p e3, ⟨dI_p e4, ⟨dI_p e5, ⟨dI_p e6, ⟨dI_p e7, ⟨dI_p e8, ⟨dI_p e9, ⟨dI_p e10, ⟨dI_p e11, ⟨dI_p e12, ⟨dI_p e13, ⟨dI_p e14, ⟨dI_p e15, ⟨dI_p e16, ⟨dL_ok e17, trivial⟩⟩⟩⟩⟩⟩⟩⟩⟩⟩⟩⟩⟩⟩⟩⟩⟩⟩
  · cases h
noncomputable def holdback_Hold_Has.tm : Templ := { keys := [], roots := [.ptr 0 0, .agg [.hole, .hole, .hole, .hole]], ylds := [], H := [(0, .cells 45 [.hole, .hole, .hole, .hole, .hole, .hole, .hole, .hole, .hole, .hole, .hole, .hole, .hole, .hole, .hole, .hole, .own 1]), (1, .vec 29 (.pair (.int .i64) (.pair (.int .i64) (.pair (.int .i64) (.sl (.int .u8))))) true)], n := 2, stay := [0] }
noncomputable def holdback_Hold_Has.tr : Templ := { keys := [], roots := [.hole], ylds := [], H := [(0, .cells 45 [.hole, .hole, .hole, .hole, .hole, .hole, .hole, .hole, .hole, .hole, .hole, .hole, .hole, .hole, .hole, .hole, .own 1]), (1, .vec 29 (.pair (.int .i64) (.pair (.int .i64) (.pair (.int .i64) (.sl (.int .u8))))) true)], n := 2, stay := [0] }
noncomputable def holdback_Hold_Has.k : FK holdback_Hold_Has.X holdback_Hold_Has.Y := ⟨holdback_Hold_Has.tm, holdback_Hold_Has.tr, holdback_Hold_Has.decX, holdback_Hold_Has.encX, holdback_Hold_Has.decY, holdback_Hold_Has.encY⟩
theorem holdback_Hold_Has.k_ok : holdback_Hold_Has.k.OK := ⟨holdback_Hold_Has.decX_ok, holdback_Hold_Has.decY_ok, (by show ∀ j ∈ ([0] : List Nat), j < 2; decide)⟩
def holdback_Hold_Has.f (x : holdback_Hold_Has.X) : Option (holdback_Hold_Has.Y) :=
  (if (!decide (x.2.2.2.2.1 = 0)) = true then ((guardEq slices_IndexFunc_api_Message_api_Message.b0.loop slices_IndexFunc_api_Message_api_Message.b0.loop (rounds slices_IndexFunc_api_Message_api_Message.step0 (0, Int.ofNat x.2.2.2.2.2.2.2.2.2.2.2.2.2.2.2.2.2.2.2.2.length, x.1, x.2.1, x.2.2.1, x.2.2.2.1, x.2.2.2.2.2.2.2.2.2.2.2.2.2.2.2.2.2.2.2.2))).bind fun t0 => (match t0 with | .inl x1 => some (false, x.2.2.2.2.1, x.2.2.2.2.2.1, x.2.2.2.2.2.2.1, x.2.2.2.2.2.2.2.1, x.2.2.2.2.2.2.2.2.1, x.2.2.2.2.2.2.2.2.2.1, x.2.2.2.2.2.2.2.2.2.2.1, x.2.2.2.2.2.2.2.2.2.2.2.1, x.2.2.2.2.2.2.2.2.2.2.2.2.1, x.2.2.2.2.2.2.2.2.2.2.2.2.2.1, x.2.2.2.2.2.2.2.2.2.2.2.2.2.2.1, x.2.2.2.2.2.2.2.2.2.2.2.2.2.2.2.1, x.2.2.2.2.2.2.2.2.2.2.2.2.2.2.2.2.1, x.2.2.2.2.2.2.2.2.2.2.2.2.2.2.2.2.2.1, x.2.2.2.2.2.2.2.2.2.2.2.2.2.2.2.2.2.2.1, x.2.2.2.2.2.2.2.2.2.2.2.2.2.2.2.2.2.2.2.1, x1.2.2.2.2.2.2) | .inr y1 => some (decide (y1.1 ≥ 0), x.2.2.2.2.1, x.2.2.2.2.2.1, x.2.2.2.2.2.2.1, x.2.2.2.2.2.2.2.1, x.2.2.2.2.2.2.2.2.1, x.2.2.2.2.2.2.2.2.2.1, x.2.2.2.2.2.2.2.2.2.2.1, x.2.2.2.2.2.2.2.2.2.2.2.1, x.2.2.2.2.2.2.2.2.2.2.2.2.1, x.2.2.2.2.2.2.2.2.2.2.2.2.2.1, x.2.2.2.2.2.2.2.2.2.2.2.2.2.2.1, x.2.2.2.2.2.2.2.2.2.2.2.2.2.2.2.1, x.2.2.2.2.2.2.2.2.2.2.2.2.2.2.2.2.1, x.2.2.2.2.2.2.2.2.2.2.2.2.2.2.2.2.2.1, x.2.2.2.2.2.2.2.2.2.2.2.2.2.2.2.2.2.2.1, x.2.2.2.2.2.2.2.2.2.2.2.2.2.2.2.2.2.2.2.1, y1.2.2.2.2.2))) else some (false, x.2.2.2.2.1, x.2.2.2.2.2.1, x.2.2.2.2.2.2.1, x.2.2.2.2.2.2.2.1, x.2.2.2.2.2.2.2.2.1, x.2.2.2.2.2.2.2.2.2.1, x.2.2.2.2.2.2.2.2.2.2.1, x.2.2.2.2.2.2.2.2.2.2.2.1, x.2.2.2.2.2.2.2.2.2.2.2.2.1, x.2.2.2.2.2.2.2.2.2.2.2.2.2.1, x.2.2.2.2.2.2.2.2.2.2.2.2.2.2.1, x.2.2.2.2.2.2.2.2.2.2.2.2.2.2.2.1, x.2.2.2.2.2.2.2.2.2.2.2.2.2.2.2.2.1, x.2.2.2.2.2.2.2.2.2.2.2.2.2.2.2.2.2.1, x.2.2.2.2.2.2.2.2.2.2.2.2.2.2.2.2.2.2.1, x.2.2.2.2.2.2.2.2.2.2.2.2.2.2.2.2.2.2.2.1, x.2.2.2.2.2.2.2.2.2.2.2.2.2.2.2.2.2.2.2.2))
set_option maxRecDepth 100000 in
theorem holdback_Hold_Has.f_eq (x : holdback_Hold_Has.X) : (walk Try.prog (ctOf t_holdback_Compare) (ltOf slices_IndexFunc_api_Message_api_Message.lt0) 100000 15 (holdback_Hold_Has.k.tm.vals (holdback_Hold_Has.encX x)) (holdback_Hold_Has.k.tm.heap (holdback_Hold_Has.encX x)) holdback_Hold_Has.k.tm.n).strip.opt holdback_Hold_Has.k.leaf = holdback_Hold_Has.f x := by kernel_rfl
set_option maxRecDepth 100000 in
theorem holdback_Hold_Has.f_fix (x : holdback_Hold_Has.X) : (walk Try.prog (ctOf t_holdback_Compare) (ltOf slices_IndexFunc_api_Message_api_Message.lt0) 100000 15 (holdback_Hold_Has.k.tm.vals (holdback_Hold_Has.encX x)) (holdback_Hold_Has.k.tm.heap (holdback_Hold_Has.encX x)) holdback_Hold_Has.k.tm.n).fixed = walk Try.prog (ctOf t_holdback_Compare) (ltOf slices_IndexFunc_api_Message_api_Message.lt0) 100000 15 (holdback_Hold_Has.k.tm.vals (holdback_Hold_Has.encX x)) (holdback_Hold_Has.k.tm.heap (holdback_Hold_Has.encX x)) holdback_Hold_Has.k.tm.n := by kernel_rfl
noncomputable def holdback_Hold_Has.c : Entry := markW (holdback_Hold_Has.k.c holdback_Hold_Has.f)
theorem holdback_Hold_Has.ok : EntryOK Try.prog 15 holdback_Hold_Has.c := markW_ok (fk_ok named mixed t_holdback_Compare_ok.ct slices_IndexFunc_api_Message_api_Message.lt0_ok holdback_Hold_Has.k_ok holdback_Hold_Has.f_fix holdback_Hold_Has.f_eq)
noncomputable def t_holdback_Hold_Has : List (Nat × Entry) := (15, holdback_Hold_Has.c) :: t_holdback_Compare
theorem t_holdback_Hold_Has_ok : TabOK Try.prog t_holdback_Hold_Has := TabOK.cons holdback_Hold_Has.ok t_holdback_Compare_ok
noncomputable abbrev tab_S2 : List (Nat × Entry) := t_holdback_Hold_Has
theorem tab_S2_ok : TabOK Try.prog tab_S2 := t_holdback_Hold_Has_ok
noncomputable abbrev lt_S2 : List (Nat × Nat × LC) := slices_IndexFunc_api_Message_api_Message.lt0
theorem lt_S2_ok : LtOK Try.prog (ltOf lt_S2) := slices_IndexFunc_api_Message_api_Message.lt0_ok
end
end Go.Proofs.Ytaoplfmaiclfkaa.S
