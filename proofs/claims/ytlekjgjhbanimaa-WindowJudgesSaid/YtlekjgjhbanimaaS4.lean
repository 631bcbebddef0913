/- Contracts by the symbolic walk: vespersref16_Keep, vespersref16_Same. -/
import Derived.Test.YtlekjgjhbanimaaProg
import Derived.Test.YtlekjgjhbanimaaSXo
import Derived.Test.YtlekjgjhbanimaaS3
namespace Go.Proofs.Ytlekjgjhbanimaa.S
open Go Go.RowKit Go.Proofs.Ytlekjgjhbanimaa.SX Go.Proofs
set_option linter.unusedVariables false
noncomputable section
abbrev vespersref16_Keep.X0 : Type := Int × (List (Int)) × (List (Int)) × Int × Int × Int × Int × Int × Int × Int × Int × Int × Int × Int × Int × Int × Int × Int × Int × Int × Int
def vespersref16_Keep.decX0 : List AV → Option vespersref16_Keep.X0
  | [y0, y1, y2, y3, y4, y5, y6, y7, y8, y9, y10, y11, y12, y13, y14, y15, y16, y17, y18, y19, y20] => (dI .i64 y0).bind fun n0 => (dLst 0 (.int .i64) y1).bind fun n1 => (dL (.int .i64) y2).bind fun n2 => (dI .i64 y3).bind fun n3 => (dI .i64 y4).bind fun n4 => (dI .i64 y5).bind fun n5 => (dI .i64 y6).bind fun n6 => (dI .i64 y7).bind fun n7 => (dI .i64 y8).bind fun n8 => (dI .i64 y9).bind fun n9 => (dI .i64 y10).bind fun n10 => (dI .i64 y11).bind fun n11 => (dI .i64 y12).bind fun n12 => (dI .i64 y13).bind fun n13 => (dI .i64 y14).bind fun n14 => (dI .i64 y15).bind fun n15 => (dI .i64 y16).bind fun n16 => (dI .i64 y17).bind fun n17 => (dI .i64 y18).bind fun n18 => (dI .i64 y19).bind fun n19 => (dI .i64 y20).bind fun n20 => some (n0, n1, n2, n3, n4, n5, n6, n7, n8, n9, n10, n11, n12, n13, n14, n15, n16, n17, n18, n19, n20)
  | _ => none
def vespersref16_Keep.encX0 (x : vespersref16_Keep.X0) : List AV := [.int .i64 (.s x.1), .lst 0 (.int .i64) x.2.1 none, .ro (.int .i64) x.2.2.1, .int .i64 (.s x.2.2.2.1), .int .i64 (.s x.2.2.2.2.1), .int .i64 (.s x.2.2.2.2.2.1), .int .i64 (.s x.2.2.2.2.2.2.1), .int .i64 (.s x.2.2.2.2.2.2.2.1), .int .i64 (.s x.2.2.2.2.2.2.2.2.1), .int .i64 (.s x.2.2.2.2.2.2.2.2.2.1), .int .i64 (.s x.2.2.2.2.2.2.2.2.2.2.1), .int .i64 (.s x.2.2.2.2.2.2.2.2.2.2.2.1), .int .i64 (.s x.2.2.2.2.2.2.2.2.2.2.2.2.1), .int .i64 (.s x.2.2.2.2.2.2.2.2.2.2.2.2.2.1), .int .i64 (.s x.2.2.2.2.2.2.2.2.2.2.2.2.2.2.1), .int .i64 (.s x.2.2.2.2.2.2.2.2.2.2.2.2.2.2.2.1), .int .i64 (.s x.2.2.2.2.2.2.2.2.2.2.2.2.2.2.2.2.1), .int .i64 (.s x.2.2.2.2.2.2.2.2.2.2.2.2.2.2.2.2.2.1), .int .i64 (.s x.2.2.2.2.2.2.2.2.2.2.2.2.2.2.2.2.2.2.1), .int .i64 (.s x.2.2.2.2.2.2.2.2.2.2.2.2.2.2.2.2.2.2.2.1), .int .i64 (.s x.2.2.2.2.2.2.2.2.2.2.2.2.2.2.2.2.2.2.2.2)]
theorem vespersref16_Keep.decX0_ok (ys : List AV) (x : vespersref16_Keep.X0) (h : vespersref16_Keep.decX0 ys = some x) : Ptw ys (vespersref16_Keep.encX0 x) := by
  unfold vespersref16_Keep.decX0 at h
  split at h
  · obtain ⟨n0, e0, h⟩ := Option.bind_eq_some_iff.1 h
    obtain ⟨n1, e1, h⟩ := Option.bind_eq_some_iff.1 h
    obtain ⟨n2, e2, h⟩ := Option.bind_eq_some_iff.1 h
    obtain ⟨n3, e3, h⟩ := Option.bind_eq_some_iff.1 h
    obtain ⟨n4, e4, h⟩ := Option.bind_eq_some_iff.1 h
    obtain ⟨n5, e5, h⟩ := Option.bind_eq_some_iff.1 h
    obtain ⟨n6, e6, h⟩ := Option.bind_eq_some_iff.1 h
    obtain ⟨n7, e7, h⟩ := Option.bind_eq_some_iff.1 h
    obtain ⟨n8, e8, h⟩ := Option.bind_eq_some_iff.1 h
    obtain ⟨n9, e9, h⟩ := Option.bind_eq_some_iff.1 h
    obtain ⟨n10, e10, h⟩ := Option.bind_eq_some_iff.1 h
    obtain ⟨n11, e11, h⟩ := Option.bind_eq_some_iff.1 h
    obtain ⟨n12, e12, h⟩ := Option.bind_eq_some_iff.1 h
    obtain ⟨n13, e13, h⟩ := Option.bind_eq_some_iff.1 h
    obtain ⟨n14, e14, h⟩ := Option.bind_eq_some_iff.1 h
    obtain ⟨n15, e15, h⟩ := Option.bind_eq_some_iff.1 h
    obtain ⟨n16, e16, h⟩ := Option.bind_eq_some_iff.1 h
    obtain ⟨n17, e17, h⟩ := Option.bind_eq_some_iff.1 h
    obtain ⟨n18, e18, h⟩ := Option.bind_eq_some_iff.1 h
    obtain ⟨n19, e19, h⟩ := Option.bind_eq_some_iff.1 h
    obtain ⟨n20, e20, h⟩ := Option.bind_eq_some_iff.1 h
    cases h
    exact ⟨dI_p e0, ⟨dLst_ok e1, ⟨dL_ok e2, ⟨dI_p e3, ⟨dI_p e4, ⟨dI_p e5, ⟨dI_p e6, ⟨dI_p e7, ⟨dI_p e8, ⟨dI_p e9, ⟨dI_p e10, ⟨dI_p e11, ⟨dI_p e12, ⟨dI_p e13, ⟨dI_p e14, ⟨dI_p e15, ⟨dI_p e16, ⟨dI_p e17, ⟨dI_p e18, ⟨dI_p e19, ⟨dI_p e20, trivial⟩⟩⟩⟩⟩⟩⟩⟩⟩⟩⟩⟩⟩⟩⟩⟩⟩⟩⟩⟩⟩
  · cases h
abbrev vespersref16_Keep.Y0 : Type := Unit
def vespersref16_Keep.decY0 : List AV → Option vespersref16_Keep.Y0
  | [] => some ()
  | _ => none
def vespersref16_Keep.encY0 (x : vespersref16_Keep.Y0) : List AV := []
theorem vespersref16_Keep.decY0_ok (ys : List AV) (x : vespersref16_Keep.Y0) (h : vespersref16_Keep.decY0 ys = some x) : Ptw ys (vespersref16_Keep.encY0 x) := by
  unfold vespersref16_Keep.decY0 at h
  split at h
  · cases h
    exact trivial
  · cases h
noncomputable def vespersref16_Keep.tm0 : Templ := { keys := [10, 9, 4, 3, 2], roots := [.hole, .own 2, .ptr 1 0, .ptr 0 0, .hole], ylds := [], H := [(2, .vec 2 (.int .i64) true), (0, .cells 23 [.hole, .hole, .hole, .hole, .hole, .hole, .hole, .hole, .hole, .hole, .hole, .hole, .hole, .hole, .hole, .hole]), (1, .cells 25 [.hole, .hole])], n := 3, stay := [0, 1] }
noncomputable def vespersref16_Keep.tr0 : Templ := { keys := [6, 7], roots := [.nilSl, .int .i64 160], ylds := [], H := [], n := 3, stay := [0, 1] }
noncomputable def vespersref16_Keep.b0 : Code := loopOf Try.prog 18 0
noncomputable def vespersref16_Keep.k0 : LK vespersref16_Keep.X0 vespersref16_Keep.Y0 := ⟨18, szOf Try.prog 18, false, vespersref16_Keep.tm0, vespersref16_Keep.tr0, vespersref16_Keep.decX0, vespersref16_Keep.encX0, vespersref16_Keep.decY0, vespersref16_Keep.encY0⟩
theorem vespersref16_Keep.k0_ok : vespersref16_Keep.k0.OK := ⟨vespersref16_Keep.decX0_ok, vespersref16_Keep.decY0_ok, (by show ∀ j ∈ [0, 1], j < 3; decide), (by show ∀ j ∈ ([] : List Nat), j ∈ ([0, 1] : List Nat); decide), rfl⟩
def vespersref16_Keep.step0 (x : vespersref16_Keep.X0) : Option (vespersref16_Keep.X0 ⊕ (vespersref16_Keep.X0 ⊕ vespersref16_Keep.Y0)) :=
  (if x.fst < Int.ofNat x.snd.fst.length then (if 0 ≤ x.fst ∧ x.fst < Int.ofNat x.snd.fst.length then ((vespersref16_Judge.f x.snd.snd.snd.fst x.snd.snd.snd.snd.fst x.snd.snd.snd.snd.snd.fst x.snd.snd.snd.snd.snd.snd.fst x.snd.snd.snd.snd.snd.snd.snd.fst x.snd.snd.snd.snd.snd.snd.snd.snd.fst x.snd.snd.snd.snd.snd.snd.snd.snd.snd.fst x.snd.snd.snd.snd.snd.snd.snd.snd.snd.snd.fst x.snd.snd.snd.snd.snd.snd.snd.snd.snd.snd.snd.fst x.snd.snd.snd.snd.snd.snd.snd.snd.snd.snd.snd.snd.fst x.snd.snd.snd.snd.snd.snd.snd.snd.snd.snd.snd.snd.snd.fst x.snd.snd.snd.snd.snd.snd.snd.snd.snd.snd.snd.snd.snd.snd.fst x.snd.snd.snd.snd.snd.snd.snd.snd.snd.snd.snd.snd.snd.snd.snd.fst x.snd.snd.snd.snd.snd.snd.snd.snd.snd.snd.snd.snd.snd.snd.snd.snd.fst x.snd.snd.snd.snd.snd.snd.snd.snd.snd.snd.snd.snd.snd.snd.snd.snd.snd.fst x.snd.snd.snd.snd.snd.snd.snd.snd.snd.snd.snd.snd.snd.snd.snd.snd.snd.snd.fst x.snd.snd.snd.snd.snd.snd.snd.snd.snd.snd.snd.snd.snd.snd.snd.snd.snd.snd.snd.fst x.snd.snd.snd.snd.snd.snd.snd.snd.snd.snd.snd.snd.snd.snd.snd.snd.snd.snd.snd.snd (x.snd.fst.getD x.fst.toNat (Ty.int IntKind.i64).dflt)).bind fun t0 => (if t0.snd.snd ≠ 0 then some (Sum.inr (Sum.inr ())) else (if t0.fst = 2 then (if Int.ofNat x.snd.snd.fst.length + 1 ≤ 15637498706147 then some (Sum.inl (wrap64 (x.fst + 1), x.snd.fst, x.snd.snd.fst ++ [t0.snd.fst], x.snd.snd.snd.fst, x.snd.snd.snd.snd.fst, x.snd.snd.snd.snd.snd.fst, x.snd.snd.snd.snd.snd.snd.fst, x.snd.snd.snd.snd.snd.snd.snd.fst, x.snd.snd.snd.snd.snd.snd.snd.snd.fst, x.snd.snd.snd.snd.snd.snd.snd.snd.snd.fst, x.snd.snd.snd.snd.snd.snd.snd.snd.snd.snd.fst, x.snd.snd.snd.snd.snd.snd.snd.snd.snd.snd.snd.fst, x.snd.snd.snd.snd.snd.snd.snd.snd.snd.snd.snd.snd.fst, x.snd.snd.snd.snd.snd.snd.snd.snd.snd.snd.snd.snd.snd.fst, x.snd.snd.snd.snd.snd.snd.snd.snd.snd.snd.snd.snd.snd.snd.fst, x.snd.snd.snd.snd.snd.snd.snd.snd.snd.snd.snd.snd.snd.snd.snd.fst, x.snd.snd.snd.snd.snd.snd.snd.snd.snd.snd.snd.snd.snd.snd.snd.snd.fst, x.snd.snd.snd.snd.snd.snd.snd.snd.snd.snd.snd.snd.snd.snd.snd.snd.snd.fst, x.snd.snd.snd.snd.snd.snd.snd.snd.snd.snd.snd.snd.snd.snd.snd.snd.snd.snd.fst, x.snd.snd.snd.snd.snd.snd.snd.snd.snd.snd.snd.snd.snd.snd.snd.snd.snd.snd.snd.fst, x.snd.snd.snd.snd.snd.snd.snd.snd.snd.snd.snd.snd.snd.snd.snd.snd.snd.snd.snd.snd)) else none) else some (Sum.inl (wrap64 (x.fst + 1), x.snd.fst, x.snd.snd.fst, x.snd.snd.snd.fst, x.snd.snd.snd.snd.fst, x.snd.snd.snd.snd.snd.fst, x.snd.snd.snd.snd.snd.snd.fst, x.snd.snd.snd.snd.snd.snd.snd.fst, x.snd.snd.snd.snd.snd.snd.snd.snd.fst, x.snd.snd.snd.snd.snd.snd.snd.snd.snd.fst, x.snd.snd.snd.snd.snd.snd.snd.snd.snd.snd.fst, x.snd.snd.snd.snd.snd.snd.snd.snd.snd.snd.snd.fst, x.snd.snd.snd.snd.snd.snd.snd.snd.snd.snd.snd.snd.fst, x.snd.snd.snd.snd.snd.snd.snd.snd.snd.snd.snd.snd.snd.fst, x.snd.snd.snd.snd.snd.snd.snd.snd.snd.snd.snd.snd.snd.snd.fst, x.snd.snd.snd.snd.snd.snd.snd.snd.snd.snd.snd.snd.snd.snd.snd.fst, x.snd.snd.snd.snd.snd.snd.snd.snd.snd.snd.snd.snd.snd.snd.snd.snd.fst, x.snd.snd.snd.snd.snd.snd.snd.snd.snd.snd.snd.snd.snd.snd.snd.snd.snd.fst, x.snd.snd.snd.snd.snd.snd.snd.snd.snd.snd.snd.snd.snd.snd.snd.snd.snd.snd.fst, x.snd.snd.snd.snd.snd.snd.snd.snd.snd.snd.snd.snd.snd.snd.snd.snd.snd.snd.snd.fst, x.snd.snd.snd.snd.snd.snd.snd.snd.snd.snd.snd.snd.snd.snd.snd.snd.snd.snd.snd.snd))))) else none) else some (Sum.inr (Sum.inl (x.fst, x.snd.fst, x.snd.snd.fst, x.snd.snd.snd.fst, x.snd.snd.snd.snd.fst, x.snd.snd.snd.snd.snd.fst, x.snd.snd.snd.snd.snd.snd.fst, x.snd.snd.snd.snd.snd.snd.snd.fst, x.snd.snd.snd.snd.snd.snd.snd.snd.fst, x.snd.snd.snd.snd.snd.snd.snd.snd.snd.fst, x.snd.snd.snd.snd.snd.snd.snd.snd.snd.snd.fst, x.snd.snd.snd.snd.snd.snd.snd.snd.snd.snd.snd.fst, x.snd.snd.snd.snd.snd.snd.snd.snd.snd.snd.snd.snd.fst, x.snd.snd.snd.snd.snd.snd.snd.snd.snd.snd.snd.snd.snd.fst, x.snd.snd.snd.snd.snd.snd.snd.snd.snd.snd.snd.snd.snd.snd.fst, x.snd.snd.snd.snd.snd.snd.snd.snd.snd.snd.snd.snd.snd.snd.snd.fst, x.snd.snd.snd.snd.snd.snd.snd.snd.snd.snd.snd.snd.snd.snd.snd.snd.fst, x.snd.snd.snd.snd.snd.snd.snd.snd.snd.snd.snd.snd.snd.snd.snd.snd.snd.fst, x.snd.snd.snd.snd.snd.snd.snd.snd.snd.snd.snd.snd.snd.snd.snd.snd.snd.snd.fst, x.snd.snd.snd.snd.snd.snd.snd.snd.snd.snd.snd.snd.snd.snd.snd.snd.snd.snd.snd.fst, x.snd.snd.snd.snd.snd.snd.snd.snd.snd.snd.snd.snd.snd.snd.snd.snd.snd.snd.snd.snd))))
set_option maxRecDepth 100000 in
theorem vespersref16_Keep.step0_eq (x : vespersref16_Keep.X0) : (roundT Try.prog (ctOf tab_S3) (ltOf lt_S3) 100000 vespersref16_Keep.k0 0 vespersref16_Keep.b0 (vespersref16_Keep.encX0 x)).strip.opt (leafD vespersref16_Keep.decX0 vespersref16_Keep.decY0) = vespersref16_Keep.step0 x := by kernel_rfl
set_option maxRecDepth 100000 in
theorem vespersref16_Keep.step0_fix (x : vespersref16_Keep.X0) : (roundT Try.prog (ctOf tab_S3) (ltOf lt_S3) 100000 vespersref16_Keep.k0 0 vespersref16_Keep.b0 (vespersref16_Keep.encX0 x)).fixed = roundT Try.prog (ctOf tab_S3) (ltOf lt_S3) 100000 vespersref16_Keep.k0 0 vespersref16_Keep.b0 (vespersref16_Keep.encX0 x) := by kernel_rfl
noncomputable def vespersref16_Keep.lt0 : List (Nat × Nat × LC) := (18, 0, vespersref16_Keep.k0.lc vespersref16_Keep.step0 vespersref16_Keep.b0) :: lt_S3
theorem vespersref16_Keep.lt0_ok : LtOK Try.prog (ltOf vespersref16_Keep.lt0) := ltOf_cons named mixed tab_S3_ok.ct lt_S3_ok vespersref16_Keep.k0_ok vespersref16_Keep.step0_fix vespersref16_Keep.step0_eq lt_S3_ok
abbrev vespersref16_Keep.X : Type := Int × Int × Int × Int × Int × Int × Int × Int × Int × Int × Int × Int × Int × Int × Int × Int × Int × Int × (List (Int))
def vespersref16_Keep.decX : List AV → Option vespersref16_Keep.X
  | [.agg [y0, y1, y2, y3, y4, y5, y6, y7, y8, y9, y10, y11, y12, y13, y14, y15], .agg [y16, y17], y18] => (dI .i64 y0).bind fun n0 => (dI .i64 y1).bind fun n1 => (dI .i64 y2).bind fun n2 => (dI .i64 y3).bind fun n3 => (dI .i64 y4).bind fun n4 => (dI .i64 y5).bind fun n5 => (dI .i64 y6).bind fun n6 => (dI .i64 y7).bind fun n7 => (dI .i64 y8).bind fun n8 => (dI .i64 y9).bind fun n9 => (dI .i64 y10).bind fun n10 => (dI .i64 y11).bind fun n11 => (dI .i64 y12).bind fun n12 => (dI .i64 y13).bind fun n13 => (dI .i64 y14).bind fun n14 => (dI .i64 y15).bind fun n15 => (dI .i64 y16).bind fun n16 => (dI .i64 y17).bind fun n17 => (dLst 0 (.int .i64) y18).bind fun n18 => some (n0, n1, n2, n3, n4, n5, n6, n7, n8, n9, n10, n11, n12, n13, n14, n15, n16, n17, n18)
  | _ => none
def vespersref16_Keep.encX (x : vespersref16_Keep.X) : List AV := [.agg [.int .i64 (.s x.1), .int .i64 (.s x.2.1), .int .i64 (.s x.2.2.1), .int .i64 (.s x.2.2.2.1), .int .i64 (.s x.2.2.2.2.1), .int .i64 (.s x.2.2.2.2.2.1), .int .i64 (.s x.2.2.2.2.2.2.1), .int .i64 (.s x.2.2.2.2.2.2.2.1), .int .i64 (.s x.2.2.2.2.2.2.2.2.1), .int .i64 (.s x.2.2.2.2.2.2.2.2.2.1), .int .i64 (.s x.2.2.2.2.2.2.2.2.2.2.1), .int .i64 (.s x.2.2.2.2.2.2.2.2.2.2.2.1), .int .i64 (.s x.2.2.2.2.2.2.2.2.2.2.2.2.1), .int .i64 (.s x.2.2.2.2.2.2.2.2.2.2.2.2.2.1), .int .i64 (.s x.2.2.2.2.2.2.2.2.2.2.2.2.2.2.1), .int .i64 (.s x.2.2.2.2.2.2.2.2.2.2.2.2.2.2.2.1)], .agg [.int .i64 (.s x.2.2.2.2.2.2.2.2.2.2.2.2.2.2.2.2.1), .int .i64 (.s x.2.2.2.2.2.2.2.2.2.2.2.2.2.2.2.2.2.1)], .lst 0 (.int .i64) x.2.2.2.2.2.2.2.2.2.2.2.2.2.2.2.2.2.2 none]
theorem vespersref16_Keep.decX_ok (ys : List AV) (x : vespersref16_Keep.X) (h : vespersref16_Keep.decX ys = some x) : Ptw ys (vespersref16_Keep.encX x) := by
  unfold vespersref16_Keep.decX at h
  split at h
  · obtain ⟨n0, e0, h⟩ := Option.bind_eq_some_iff.1 h
    obtain ⟨n1, e1, h⟩ := Option.bind_eq_some_iff.1 h
    obtain ⟨n2, e2, h⟩ := Option.bind_eq_some_iff.1 h
    obtain ⟨n3, e3, h⟩ := Option.bind_eq_some_iff.1 h
    obtain ⟨n4, e4, h⟩ := Option.bind_eq_some_iff.1 h
    obtain ⟨n5, e5, h⟩ := Option.bind_eq_some_iff.1 h
    obtain ⟨n6, e6, h⟩ := Option.bind_eq_some_iff.1 h
    obtain ⟨n7, e7, h⟩ := Option.bind_eq_some_iff.1 h
    obtain ⟨n8, e8, h⟩ := Option.bind_eq_some_iff.1 h
    obtain ⟨n9, e9, h⟩ := Option.bind_eq_some_iff.1 h
    obtain ⟨n10, e10, h⟩ := Option.bind_eq_some_iff.1 h
    obtain ⟨n11, e11, h⟩ := Option.bind_eq_some_iff.1 h
    obtain ⟨n12, e12, h⟩ := Option.bind_eq_some_iff.1 h
    obtain ⟨n13, e13, h⟩ := Option.bind_eq_some_iff.1 h
    obtain ⟨n14, e14, h⟩ := Option.bind_eq_some_iff.1 h
    obtain ⟨n15, e15, h⟩ := Option.bind_eq_some_iff.1 h
    obtain ⟨n16, e16, h⟩ := Option.bind_eq_some_iff.1 h
    obtain ⟨n17, e17, h⟩ := Option.bind_eq_some_iff.1 h
    obtain ⟨n18, e18, h⟩ := Option.bind_eq_some_iff.1 h
    cases h
    exact ⟨agg_p ⟨dI_p e0, ⟨dI_p e1, ⟨dI_p e2, ⟨dI_p e3, ⟨dI_p e4, ⟨dI_p e5, ⟨dI_p e6, ⟨dI_p e7, ⟨dI_p e8, ⟨dI_p e9, ⟨dI_p e10, ⟨dI_p e11, ⟨dI_p e12, ⟨dI_p e13, ⟨dI_p e14, ⟨dI_p e15, trivial⟩⟩⟩⟩⟩⟩⟩⟩⟩⟩⟩⟩⟩⟩⟩⟩, ⟨agg_p ⟨dI_p e16, ⟨dI_p e17, trivial⟩⟩, ⟨dLst_ok e18, trivial⟩⟩⟩
  · cases h
abbrev vespersref16_Keep.Y : Type := Int × (List (Int))
def vespersref16_Keep.decY : List AV → Option vespersref16_Keep.Y
  | [y0, y1] => (dI .i64 y0).bind fun n0 => (dL (.int .i64) y1).bind fun n1 => some (n0, n1)
  | _ => none
def vespersref16_Keep.encY (x : vespersref16_Keep.Y) : List AV := [.int .i64 (.s x.1), .ro (.int .i64) x.2]
theorem vespersref16_Keep.decY_ok (ys : List AV) (x : vespersref16_Keep.Y) (h : vespersref16_Keep.decY ys = some x) : Ptw ys (vespersref16_Keep.encY x) := by
  unfold vespersref16_Keep.decY at h
  split at h
  · obtain ⟨n0, e0, h⟩ := Option.bind_eq_some_iff.1 h
    obtain ⟨n1, e1, h⟩ := Option.bind_eq_some_iff.1 h
    cases h
    exact ⟨dI_p e0, ⟨dL_ok e1, trivial⟩⟩
  · cases h
noncomputable def vespersref16_Keep.tr : Templ := { keys := [], roots := [.tup [.own 0, .hole]], ylds := [], H := [(0, .vec 2 (.int .i64) true)], n := 1, stay := [] }
noncomputable def vespersref16_Keep.k : RK vespersref16_Keep.X vespersref16_Keep.Y := ⟨[.flat, .flat, .sl (.int .i64)], vespersref16_Keep.decX, vespersref16_Keep.encX, vespersref16_Keep.tr, vespersref16_Keep.decY, vespersref16_Keep.encY⟩
theorem vespersref16_Keep.k_ok : vespersref16_Keep.k.OK := ⟨vespersref16_Keep.decX_ok, vespersref16_Keep.decY_ok, fun _ => ⟨rfl, rfl⟩⟩
def vespersref16_Keep.f (x : vespersref16_Keep.X) : Option (vespersref16_Keep.Y) :=
  ((vespersref09_Has.f x.fst x.snd.fst x.snd.snd.fst x.snd.snd.snd.fst x.snd.snd.snd.snd.fst x.snd.snd.snd.snd.snd.fst x.snd.snd.snd.snd.snd.snd.fst x.snd.snd.snd.snd.snd.snd.snd.fst x.snd.snd.snd.snd.snd.snd.snd.snd.fst x.snd.snd.snd.snd.snd.snd.snd.snd.snd.fst x.snd.snd.snd.snd.snd.snd.snd.snd.snd.snd.fst x.snd.snd.snd.snd.snd.snd.snd.snd.snd.snd.snd.fst x.snd.snd.snd.snd.snd.snd.snd.snd.snd.snd.snd.snd.fst x.snd.snd.snd.snd.snd.snd.snd.snd.snd.snd.snd.snd.snd.fst x.snd.snd.snd.snd.snd.snd.snd.snd.snd.snd.snd.snd.snd.snd.fst x.snd.snd.snd.snd.snd.snd.snd.snd.snd.snd.snd.snd.snd.snd.snd.fst x.snd.snd.snd.snd.snd.snd.snd.snd.snd.snd.snd.snd.snd.snd.snd.snd.fst x.snd.snd.snd.snd.snd.snd.snd.snd.snd.snd.snd.snd.snd.snd.snd.snd.snd.fst).bind fun t0 => (if (!t0) = true then some (160, []) else ((guardEq vespersref16_Keep.b0.loop vespersref16_Keep.b0.loop (rounds vespersref16_Keep.step0 (0, x.snd.snd.snd.snd.snd.snd.snd.snd.snd.snd.snd.snd.snd.snd.snd.snd.snd.snd, [], x.fst, x.snd.fst, x.snd.snd.fst, x.snd.snd.snd.fst, x.snd.snd.snd.snd.fst, x.snd.snd.snd.snd.snd.fst, x.snd.snd.snd.snd.snd.snd.fst, x.snd.snd.snd.snd.snd.snd.snd.fst, x.snd.snd.snd.snd.snd.snd.snd.snd.fst, x.snd.snd.snd.snd.snd.snd.snd.snd.snd.fst, x.snd.snd.snd.snd.snd.snd.snd.snd.snd.snd.fst, x.snd.snd.snd.snd.snd.snd.snd.snd.snd.snd.snd.fst, x.snd.snd.snd.snd.snd.snd.snd.snd.snd.snd.snd.snd.fst, x.snd.snd.snd.snd.snd.snd.snd.snd.snd.snd.snd.snd.snd.fst, x.snd.snd.snd.snd.snd.snd.snd.snd.snd.snd.snd.snd.snd.snd.fst, x.snd.snd.snd.snd.snd.snd.snd.snd.snd.snd.snd.snd.snd.snd.snd.fst, x.snd.snd.snd.snd.snd.snd.snd.snd.snd.snd.snd.snd.snd.snd.snd.snd.fst, x.snd.snd.snd.snd.snd.snd.snd.snd.snd.snd.snd.snd.snd.snd.snd.snd.snd.fst))).bind fun t1 => (match t1 with | .inl x2 => some (0, x2.snd.snd.fst) | .inr y2 => some (160, [])))))
set_option maxRecDepth 100000 in
theorem vespersref16_Keep.f_eq (x : vespersref16_Keep.X) : (walk Try.prog (ctOf tab_S3) (ltOf vespersref16_Keep.lt0) 100000 18 (vespersref16_Keep.encX x) [] 0).strip.opt vespersref16_Keep.k.leaf = vespersref16_Keep.f x := by kernel_rfl
set_option maxRecDepth 100000 in
theorem vespersref16_Keep.f_fix (x : vespersref16_Keep.X) : (walk Try.prog (ctOf tab_S3) (ltOf vespersref16_Keep.lt0) 100000 18 (vespersref16_Keep.encX x) [] 0).fixed = walk Try.prog (ctOf tab_S3) (ltOf vespersref16_Keep.lt0) 100000 18 (vespersref16_Keep.encX x) [] 0 := by kernel_rfl
noncomputable def vespersref16_Keep.c : Entry := markW (vespersref16_Keep.k.c vespersref16_Keep.f)
theorem vespersref16_Keep.ok : EntryOK Try.prog 18 vespersref16_Keep.c := markW_ok (rk_ok named mixed tab_S3_ok.ct vespersref16_Keep.lt0_ok vespersref16_Keep.k_ok vespersref16_Keep.f_fix vespersref16_Keep.f_eq)
noncomputable def t_vespersref16_Keep : List (Nat × Entry) := (18, vespersref16_Keep.c) :: tab_S3
theorem t_vespersref16_Keep_ok : TabOK Try.prog t_vespersref16_Keep := TabOK.cons vespersref16_Keep.ok tab_S3_ok
abbrev vespersref16_Same.X0 : Type := Int × (List (Int)) × (List (Int))
def vespersref16_Same.decX0 : List AV → Option vespersref16_Same.X0
  | [y0, y1, y2] => (dI .i64 y0).bind fun n0 => (dLst 0 (.int .i64) y1).bind fun n1 => (dLst 1 (.int .i64) y2).bind fun n2 => some (n0, n1, n2)
  | _ => none
def vespersref16_Same.encX0 (x : vespersref16_Same.X0) : List AV := [.int .i64 (.s x.1), .lst 0 (.int .i64) x.2.1 none, .lst 1 (.int .i64) x.2.2 none]
theorem vespersref16_Same.decX0_ok (ys : List AV) (x : vespersref16_Same.X0) (h : vespersref16_Same.decX0 ys = some x) : Ptw ys (vespersref16_Same.encX0 x) := by
  unfold vespersref16_Same.decX0 at h
  split at h
  · obtain ⟨n0, e0, h⟩ := Option.bind_eq_some_iff.1 h
    obtain ⟨n1, e1, h⟩ := Option.bind_eq_some_iff.1 h
    obtain ⟨n2, e2, h⟩ := Option.bind_eq_some_iff.1 h
    cases h
    exact ⟨dI_p e0, ⟨dLst_ok e1, ⟨dLst_ok e2, trivial⟩⟩⟩
  · cases h
abbrev vespersref16_Same.Y0 : Type := Unit
def vespersref16_Same.decY0 : List AV → Option vespersref16_Same.Y0
  | [] => some ()
  | _ => none
def vespersref16_Same.encY0 (x : vespersref16_Same.Y0) : List AV := []
theorem vespersref16_Same.decY0_ok (ys : List AV) (x : vespersref16_Same.Y0) (h : vespersref16_Same.decY0 ys = some x) : Ptw ys (vespersref16_Same.encY0 x) := by
  unfold vespersref16_Same.decY0 at h
  split at h
  · cases h
    exact trivial
  · cases h
noncomputable def vespersref16_Same.tm0 : Templ := { keys := [5, 0, 1], roots := [.hole, .hole, .hole], ylds := [], H := [], n := 0, stay := [] }
noncomputable def vespersref16_Same.tr0 : Templ := { keys := [4], roots := [.bool false], ylds := [], H := [], n := 0, stay := [] }
noncomputable def vespersref16_Same.b0 : Code := loopOf Try.prog 12 0
noncomputable def vespersref16_Same.k0 : LK vespersref16_Same.X0 vespersref16_Same.Y0 := ⟨12, szOf Try.prog 12, false, vespersref16_Same.tm0, vespersref16_Same.tr0, vespersref16_Same.decX0, vespersref16_Same.encX0, vespersref16_Same.decY0, vespersref16_Same.encY0⟩
theorem vespersref16_Same.k0_ok : vespersref16_Same.k0.OK := ⟨vespersref16_Same.decX0_ok, vespersref16_Same.decY0_ok, (by show ∀ j ∈ [], j < 0; decide), (by show ∀ j ∈ ([] : List Nat), j ∈ ([] : List Nat); decide), rfl⟩
def vespersref16_Same.step0 (x : vespersref16_Same.X0) : Option (vespersref16_Same.X0 ⊕ (vespersref16_Same.X0 ⊕ vespersref16_Same.Y0)) :=
  (if x.fst < Int.ofNat x.snd.fst.length then (if 0 ≤ x.fst ∧ x.fst < Int.ofNat x.snd.fst.length then (if 0 ≤ x.fst ∧ x.fst < Int.ofNat x.snd.snd.length then (if x.snd.fst.getD x.fst.toNat (Ty.int IntKind.i64).dflt ≠ x.snd.snd.getD x.fst.toNat (Ty.int IntKind.i64).dflt then some (Sum.inr (Sum.inr ())) else some (Sum.inl (wrap64 (x.fst + 1), x.snd.fst, x.snd.snd))) else none) else none) else some (Sum.inr (Sum.inl (x.fst, x.snd.fst, x.snd.snd))))
set_option maxRecDepth 100000 in
theorem vespersref16_Same.step0_eq (x : vespersref16_Same.X0) : (roundT Try.prog (ctOf t_vespersref16_Keep) (ltOf vespersref16_Keep.lt0) 100000 vespersref16_Same.k0 0 vespersref16_Same.b0 (vespersref16_Same.encX0 x)).strip.opt (leafD vespersref16_Same.decX0 vespersref16_Same.decY0) = vespersref16_Same.step0 x := by kernel_rfl
set_option maxRecDepth 100000 in
theorem vespersref16_Same.step0_fix (x : vespersref16_Same.X0) : (roundT Try.prog (ctOf t_vespersref16_Keep) (ltOf vespersref16_Keep.lt0) 100000 vespersref16_Same.k0 0 vespersref16_Same.b0 (vespersref16_Same.encX0 x)).fixed = roundT Try.prog (ctOf t_vespersref16_Keep) (ltOf vespersref16_Keep.lt0) 100000 vespersref16_Same.k0 0 vespersref16_Same.b0 (vespersref16_Same.encX0 x) := by kernel_rfl
noncomputable def vespersref16_Same.lt0 : List (Nat × Nat × LC) := (12, 0, vespersref16_Same.k0.lc vespersref16_Same.step0 vespersref16_Same.b0) :: vespersref16_Keep.lt0
theorem vespersref16_Same.lt0_ok : LtOK Try.prog (ltOf vespersref16_Same.lt0) := ltOf_cons named mixed t_vespersref16_Keep_ok.ct vespersref16_Keep.lt0_ok vespersref16_Same.k0_ok vespersref16_Same.step0_fix vespersref16_Same.step0_eq vespersref16_Keep.lt0_ok
abbrev vespersref16_Same.X : Type := (List (Int)) × (List (Int))
def vespersref16_Same.decX : List AV → Option vespersref16_Same.X
  | [y0, y1] => (dLst 0 (.int .i64) y0).bind fun n0 => (dLst 1 (.int .i64) y1).bind fun n1 => some (n0, n1)
  | _ => none
def vespersref16_Same.encX (x : vespersref16_Same.X) : List AV := [.lst 0 (.int .i64) x.1 none, .lst 1 (.int .i64) x.2 none]
theorem vespersref16_Same.decX_ok (ys : List AV) (x : vespersref16_Same.X) (h : vespersref16_Same.decX ys = some x) : Ptw ys (vespersref16_Same.encX x) := by
  unfold vespersref16_Same.decX at h
  split at h
  · obtain ⟨n0, e0, h⟩ := Option.bind_eq_some_iff.1 h
    obtain ⟨n1, e1, h⟩ := Option.bind_eq_some_iff.1 h
    cases h
    exact ⟨dLst_ok e0, ⟨dLst_ok e1, trivial⟩⟩
  · cases h
noncomputable def vespersref16_Same.k : QK vespersref16_Same.X (Bool) := ⟨[.sl (.int .i64), .sl (.int .i64)], vespersref16_Same.decX, vespersref16_Same.encX, r_bool.dec, r_bool.enc⟩
theorem vespersref16_Same.k_ok : vespersref16_Same.k.OK := ⟨vespersref16_Same.decX_ok, fun v H hn r h => ⟨rfl, fun ρ x hx => by rw [r_bool.ok (H := H) (hn := hn) h hx]; exact r_bool.enc_rel ρ r⟩⟩
def vespersref16_Same.f (x : vespersref16_Same.X) : Option (Bool) :=
  (if Int.ofNat x.fst.length ≠ Int.ofNat x.snd.length then some false else ((guardEq vespersref16_Same.b0.loop vespersref16_Same.b0.loop (rounds vespersref16_Same.step0 (0, x.fst, x.snd))).bind fun t0 => (match t0 with | .inl x1 => some true | .inr y1 => some false)))
set_option maxRecDepth 100000 in
theorem vespersref16_Same.f_eq (x : vespersref16_Same.X) : (walk Try.prog (ctOf t_vespersref16_Keep) (ltOf vespersref16_Same.lt0) 100000 12 (vespersref16_Same.encX x) [] 0).strip.opt vespersref16_Same.k.dec = vespersref16_Same.f x := by kernel_rfl
set_option maxRecDepth 100000 in
theorem vespersref16_Same.f_fix (x : vespersref16_Same.X) : (walk Try.prog (ctOf t_vespersref16_Keep) (ltOf vespersref16_Same.lt0) 100000 12 (vespersref16_Same.encX x) [] 0).fixed = walk Try.prog (ctOf t_vespersref16_Keep) (ltOf vespersref16_Same.lt0) 100000 12 (vespersref16_Same.encX x) [] 0 := by kernel_rfl
noncomputable def vespersref16_Same.c : Entry := vespersref16_Same.k.c vespersref16_Same.f
theorem vespersref16_Same.ok : EntryOK Try.prog 12 vespersref16_Same.c := qk_ok named mixed t_vespersref16_Keep_ok.ct vespersref16_Same.lt0_ok vespersref16_Same.k_ok vespersref16_Same.f_fix vespersref16_Same.f_eq
noncomputable def t_vespersref16_Same : List (Nat × Entry) := (12, vespersref16_Same.c) :: t_vespersref16_Keep
theorem t_vespersref16_Same_ok : TabOK Try.prog t_vespersref16_Same := TabOK.cons vespersref16_Same.ok t_vespersref16_Keep_ok
noncomputable abbrev tab_S4 : List (Nat × Entry) := t_vespersref16_Same
theorem tab_S4_ok : TabOK Try.prog tab_S4 := t_vespersref16_Same_ok
noncomputable abbrev lt_S4 : List (Nat × Nat × LC) := vespersref16_Same.lt0
theorem lt_S4_ok : LtOK Try.prog (ltOf lt_S4) := vespersref16_Same.lt0_ok
end
end Go.Proofs.Ytlekjgjhbanimaa.S
