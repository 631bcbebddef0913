/- Contracts by the symbolic walk: vespersref24_Compare. -/
import Derived.Test.YtaoplfmaiclfkaaProg
import Derived.Test.YtaoplfmaiclfkaaSXo
import Derived.Test.YtaoplfmaiclfkaaS5
namespace Go.Proofs.Ytaoplfmaiclfkaa.S
open Go Go.RowKit Go.Proofs.Ytaoplfmaiclfkaa.SX Go.Proofs
set_option linter.unusedVariables false
noncomputable section
abbrev vespersref24_Compare.X : Type := Int × Int × Int × (List (Int)) × Int × Int × Int × (List (Int))
def vespersref24_Compare.decX : List AV → Option vespersref24_Compare.X
  | [y0, y1, y2, y3, y4, y5, y6, y7] => (dI .i64 y0).bind fun n0 => (dI .i64 y1).bind fun n1 => (dI .i64 y2).bind fun n2 => (dL (.int .u8) y3).bind fun n3 => (dI .i64 y4).bind fun n4 => (dI .i64 y5).bind fun n5 => (dI .i64 y6).bind fun n6 => (dL (.int .u8) y7).bind fun n7 => some (n0, n1, n2, n3, n4, n5, n6, n7)
  | _ => none
def vespersref24_Compare.encX (x : vespersref24_Compare.X) : List AV := [.int .i64 (.s x.1), .int .i64 (.s x.2.1), .int .i64 (.s x.2.2.1), .ro (.int .u8) x.2.2.2.1, .int .i64 (.s x.2.2.2.2.1), .int .i64 (.s x.2.2.2.2.2.1), .int .i64 (.s x.2.2.2.2.2.2.1), .ro (.int .u8) x.2.2.2.2.2.2.2]
theorem vespersref24_Compare.decX_ok (ys : List AV) (x : vespersref24_Compare.X) (h : vespersref24_Compare.decX ys = some x) : Ptw ys (vespersref24_Compare.encX x) := by
  unfold vespersref24_Compare.decX at h
  split at h
  · obtain ⟨n0, e0, h⟩ := Bq h
    obtain ⟨n1, e1, h⟩ := Bq h
    obtain ⟨n2, e2, h⟩ := Bq h
    obtain ⟨n3, e3, h⟩ := Bq h
    obtain ⟨n4, e4, h⟩ := Bq h
    obtain ⟨n5, e5, h⟩ := Bq h
    obtain ⟨n6, e6, h⟩ := Bq h
    obtain ⟨n7, e7, h⟩ := Bq h
    cases h
    exact ⟨dI_p e0, ⟨dI_p e1, ⟨dI_p e2, ⟨dL_ok e3, ⟨dI_p e4, ⟨dI_p e5, ⟨dI_p e6, ⟨dL_ok e7, trivial⟩⟩⟩⟩⟩⟩⟩⟩
  · cases h
abbrev vespersref24_Compare.Y : Type := Int
def vespersref24_Compare.decY : List AV → Option vespersref24_Compare.Y
  | [y0] => (dI .i64 y0).bind fun n0 => some (n0)
  | _ => none
def vespersref24_Compare.encY (x : vespersref24_Compare.Y) : List AV := [.int .i64 (.s x)]
theorem vespersref24_Compare.decY_ok (ys : List AV) (x : vespersref24_Compare.Y) (h : vespersref24_Compare.decY ys = some x) : Ptw ys (vespersref24_Compare.encY x) := by
  unfold vespersref24_Compare.decY at h
  split at h
  · obtain ⟨n0, e0, h⟩ := Bq h
    cases h
    exact ⟨dI_p e0, trivial⟩
  · cases h
noncomputable def vespersref24_Compare.tm : Templ := { keys := [], roots := [.agg [.hole, .hole, .hole, .hole], .agg [.hole, .hole, .hole, .hole]], ylds := [], H := [], n := 0, stay := [] }
noncomputable def vespersref24_Compare.tr : Templ := { keys := [], roots := [.hole], ylds := [], H := [], n := 0, stay := [] }
noncomputable def vespersref24_Compare.k : FK vespersref24_Compare.X vespersref24_Compare.Y := ⟨vespersref24_Compare.tm, vespersref24_Compare.tr, vespersref24_Compare.decX, vespersref24_Compare.encX, vespersref24_Compare.decY, vespersref24_Compare.encY⟩
theorem vespersref24_Compare.k_ok : vespersref24_Compare.k.OK := ⟨vespersref24_Compare.decX_ok, vespersref24_Compare.decY_ok, (by show ∀ j ∈ ([] : List Nat), j < 0; decide)⟩
def vespersref24_Compare.f (x : vespersref24_Compare.X) : Option (vespersref24_Compare.Y) :=
  (if x.1 < x.2.2.2.2.1 then some (-1) else (if x.1 > x.2.2.2.2.1 then some 1 else (if x.2.1 < x.2.2.2.2.2.1 then some (-1) else (if x.2.1 > x.2.2.2.2.2.1 then some 1 else (if x.2.2.1 < x.2.2.2.2.2.2.1 then some (-1) else (if x.2.2.1 > x.2.2.2.2.2.2.1 then some 1 else some 0))))))
set_option maxRecDepth 100000 in
theorem vespersref24_Compare.f_eq (x : vespersref24_Compare.X) : (walk Try.prog (ctOf tab_S5) (ltOf lt_S5) 100000 27 (vespersref24_Compare.k.tm.vals (vespersref24_Compare.encX x)) (vespersref24_Compare.k.tm.heap (vespersref24_Compare.encX x)) vespersref24_Compare.k.tm.n).strip.opt vespersref24_Compare.k.leaf = vespersref24_Compare.f x := by kernel_rfl
set_option maxRecDepth 100000 in
theorem vespersref24_Compare.f_fix (x : vespersref24_Compare.X) : (walk Try.prog (ctOf tab_S5) (ltOf lt_S5) 100000 27 (vespersref24_Compare.k.tm.vals (vespersref24_Compare.encX x)) (vespersref24_Compare.k.tm.heap (vespersref24_Compare.encX x)) vespersref24_Compare.k.tm.n).fixed = walk Try.prog (ctOf tab_S5) (ltOf lt_S5) 100000 27 (vespersref24_Compare.k.tm.vals (vespersref24_Compare.encX x)) (vespersref24_Compare.k.tm.heap (vespersref24_Compare.encX x)) vespersref24_Compare.k.tm.n := by kernel_rfl
noncomputable def vespersref24_Compare.c : Entry := markW (vespersref24_Compare.k.c vespersref24_Compare.f)
theorem vespersref24_Compare.ok : EntryOK Try.prog 27 vespersref24_Compare.c := markW_ok (fk_ok named mixed tab_S5_ok.ct lt_S5_ok vespersref24_Compare.k_ok vespersref24_Compare.f_fix vespersref24_Compare.f_eq)
noncomputable def t_vespersref24_Compare : List (Nat × Entry) := (27, vespersref24_Compare.c) :: tab_S5
theorem t_vespersref24_Compare_ok : TabOK Try.prog t_vespersref24_Compare := TabOK.cons vespersref24_Compare.ok tab_S5_ok
noncomputable abbrev tab_S6 : List (Nat × Entry) := t_vespersref24_Compare
theorem tab_S6_ok : TabOK Try.prog tab_S6 := t_vespersref24_Compare_ok
noncomputable abbrev lt_S6 : List (Nat × Nat × LC) := lt_S5
theorem lt_S6_ok : LtOK Try.prog (ltOf lt_S6) := lt_S5_ok
end
end Go.Proofs.Ytaoplfmaiclfkaa.S
