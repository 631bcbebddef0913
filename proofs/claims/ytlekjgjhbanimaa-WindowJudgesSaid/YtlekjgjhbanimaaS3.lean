/- Contracts by the symbolic walk: window_judged_1, window_Keep. -/
import Derived.Test.YtlekjgjhbanimaaProg
import Derived.Test.YtlekjgjhbanimaaSXo
import Derived.Test.YtlekjgjhbanimaaS2
namespace Go.Proofs.Ytlekjgjhbanimaa.S
open Go Go.RowKit Go.Proofs.Ytlekjgjhbanimaa.SX Go.Proofs
set_option linter.unusedVariables false
noncomputable section
abbrev window_judged_1.X0 : Type := Int × Int × (List (Int)) × (List (Int)) × Int × Int × Int × Int × Int × Int × Int × Int × Int × Int × Int × Int × Int × Int × Int × Int × Int × Int × (List (Int)) × Int
def window_judged_1.decX0 : List AV → Option window_judged_1.X0
  | [y0, y1, y2, y3, y4, y5, y6, y7, y8, y9, y10, y11, y12, y13, y14, y15, y16, y17, y18, y19, y20, y21, y22, y23] => (dI .i64 y0).bind fun n0 => (dI .i64 y1).bind fun n1 => (dLst 0 (.int .i64) y2).bind fun n2 => (dLst 0 (.int .i64) y3).bind fun n3 => (dI .i64 y4).bind fun n4 => (dI .i64 y5).bind fun n5 => (dI .i64 y6).bind fun n6 => (dI .i64 y7).bind fun n7 => (dI .i64 y8).bind fun n8 => (dI .i64 y9).bind fun n9 => (dI .i64 y10).bind fun n10 => (dI .i64 y11).bind fun n11 => (dI .i64 y12).bind fun n12 => (dI .i64 y13).bind fun n13 => (dI .i64 y14).bind fun n14 => (dI .i64 y15).bind fun n15 => (dI .i64 y16).bind fun n16 => (dI .i64 y17).bind fun n17 => (dI .i64 y18).bind fun n18 => (dI .i64 y19).bind fun n19 => (dI .i64 y20).bind fun n20 => (dI .i64 y21).bind fun n21 => (dL (.int .i64) y22).bind fun n22 => (dI .i64 y23).bind fun n23 => some (n0, n1, n2, n3, n4, n5, n6, n7, n8, n9, n10, n11, n12, n13, n14, n15, n16, n17, n18, n19, n20, n21, n22, n23)
  | _ => none
def window_judged_1.encX0 (x : window_judged_1.X0) : List AV := [.int .i64 (.s x.1), .int .i64 (.s x.2.1), .lst 0 (.int .i64) x.2.2.1 none, .lst 0 (.int .i64) x.2.2.2.1 none, .int .i64 (.s x.2.2.2.2.1), .int .i64 (.s x.2.2.2.2.2.1), .int .i64 (.s x.2.2.2.2.2.2.1), .int .i64 (.s x.2.2.2.2.2.2.2.1), .int .i64 (.s x.2.2.2.2.2.2.2.2.1), .int .i64 (.s x.2.2.2.2.2.2.2.2.2.1), .int .i64 (.s x.2.2.2.2.2.2.2.2.2.2.1), .int .i64 (.s x.2.2.2.2.2.2.2.2.2.2.2.1), .int .i64 (.s x.2.2.2.2.2.2.2.2.2.2.2.2.1), .int .i64 (.s x.2.2.2.2.2.2.2.2.2.2.2.2.2.1), .int .i64 (.s x.2.2.2.2.2.2.2.2.2.2.2.2.2.2.1), .int .i64 (.s x.2.2.2.2.2.2.2.2.2.2.2.2.2.2.2.1), .int .i64 (.s x.2.2.2.2.2.2.2.2.2.2.2.2.2.2.2.2.1), .int .i64 (.s x.2.2.2.2.2.2.2.2.2.2.2.2.2.2.2.2.2.1), .int .i64 (.s x.2.2.2.2.2.2.2.2.2.2.2.2.2.2.2.2.2.2.1), .int .i64 (.s x.2.2.2.2.2.2.2.2.2.2.2.2.2.2.2.2.2.2.2.1), .int .i64 (.s x.2.2.2.2.2.2.2.2.2.2.2.2.2.2.2.2.2.2.2.2.1), .int .i64 (.s x.2.2.2.2.2.2.2.2.2.2.2.2.2.2.2.2.2.2.2.2.2.1), .ro (.int .i64) x.2.2.2.2.2.2.2.2.2.2.2.2.2.2.2.2.2.2.2.2.2.2.1, .int .i64 (.s x.2.2.2.2.2.2.2.2.2.2.2.2.2.2.2.2.2.2.2.2.2.2.2)]
theorem window_judged_1.decX0_ok (ys : List AV) (x : window_judged_1.X0) (h : window_judged_1.decX0 ys = some x) : Ptw ys (window_judged_1.encX0 x) := by
  unfold window_judged_1.decX0 at h
  split at h
  · obtain ⟨n0, e0, h⟩ := Option.bind_eq_some_iff.1 h
    obtain ⟨n1, e1, h⟩ := Option.bind_eq_some_iff.1 h
    obtain ⟨n2, e2, h⟩ := Option.bind_eq_some_iff.1 h
    obtain ⟨n3, e3, h⟩ := Option.bind_eq_some_iff.1 h
    obtain ⟨n4, e4, h⟩ := Option.bind_eq_some_iff.1 h
    obtain ⟨n5, e5, h⟩ := Option.bind_eq_some_iff.1 h
    obtain ⟨n6, e6, h⟩ := Option.bind_eq_some_iff.1 h
    obtain ⟨n7, e7, h⟩ := Option.bind_eq_some_iff.1 h
    obtain ⟨n8, e8, h⟩ := Option.bind_eq_some_iff.1 h
    obtain ⟨n9, e9, h⟩ := Option.bind_eq_some_iff.1 h
    obtain ⟨n10, e10, h⟩ := Option.bind_eq_some_iff.1 h
    obtain ⟨n11, e11, h⟩ := Option.bind_eq_some_iff.1 h
    obtain ⟨n12, e12, h⟩ := Option.bind_eq_some_iff.1 h
    obtain ⟨n13, e13, h⟩ := Option.bind_eq_some_iff.1 h
    obtain ⟨n14, e14, h⟩ := Option.bind_eq_some_iff.1 h
    obtain ⟨n15, e15, h⟩ := Option.bind_eq_some_iff.1 h
    obtain ⟨n16, e16, h⟩ := Option.bind_eq_some_iff.1 h
    obtain ⟨n17, e17, h⟩ := Option.bind_eq_some_iff.1 h
    obtain ⟨n18, e18, h⟩ := Option.bind_eq_some_iff.1 h
    obtain ⟨n19, e19, h⟩ := Option.bind_eq_some_iff.1 h
    obtain ⟨n20, e20, h⟩ := Option.bind_eq_some_iff.1 h
    obtain ⟨n21, e21, h⟩ := Option.bind_eq_some_iff.1 h
    obtain ⟨n22, e22, h⟩ := Option.bind_eq_some_iff.1 h
    obtain ⟨n23, e23, h⟩ := Option.bind_eq_some_iff.1 h
    cases h
    exact ⟨dI_p e0, ⟨dI_p e1, ⟨dLst_ok e2, ⟨dLst_ok e3, ⟨dI_p e4, ⟨dI_p e5, ⟨dI_p e6, ⟨dI_p e7, ⟨dI_p e8, ⟨dI_p e9, ⟨dI_p e10, ⟨dI_p e11, ⟨dI_p e12, ⟨dI_p e13, ⟨dI_p e14, ⟨dI_p e15, ⟨dI_p e16, ⟨dI_p e17, ⟨dI_p e18, ⟨dI_p e19, ⟨dI_p e20, ⟨dI_p e21, ⟨dL_ok e22, ⟨dI_p e23, trivial⟩⟩⟩⟩⟩⟩⟩⟩⟩⟩⟩⟩⟩⟩⟩⟩⟩⟩⟩⟩⟩⟩⟩⟩
  · cases h
abbrev window_judged_1.Y0 : Type := Unit
def window_judged_1.decY0 : List AV → Option window_judged_1.Y0
  | [] => some ()
  | _ => none
def window_judged_1.encY0 (x : window_judged_1.Y0) : List AV := []
theorem window_judged_1.decY0_ok (ys : List AV) (x : window_judged_1.Y0) (h : window_judged_1.decY0 ys = some x) : Ptw ys (window_judged_1.encY0 x) := by
  unfold window_judged_1.decY0 at h
  split at h
  · cases h
    exact trivial
  · cases h
noncomputable def window_judged_1.tm0 : Templ := { keys := [12, 11, 10, 0, 1, 2, 3], roots := [.hole, .hole, .hole, .yld 9, .ptr 7 0, .ptr 5 0, .ptr 6 0], ylds := [], H := [(9, .loop 11 .ready (none) (szOf Try.prog 11) [10, 7, 6] [.ptr 4 0, .ptr 3 0, .ptr 2 0] (rangeOf Try.prog 11 0).1 (rangeOf Try.prog 11 0).2.1 (rangeOf Try.prog 11 0).2.2 8), (8, .mark), (7, .cells 33 [.hole]), (6, .cells 25 [.hole, .hole]), (5, .cells 23 [.hole, .hole, .hole, .hole, .hole, .hole, .hole, .hole, .hole, .hole, .hole, .hole, .hole, .hole, .hole, .hole]), (4, .cells 33 [.own 10]), (10, .vec 2 (.int .i64) true), (2, .cells 27 [.hole]), (3, .cells 33 [.nilSl])], n := 11, stay := [2, 3, 4, 5, 6, 7, 8, 9] }
noncomputable def window_judged_1.tr0 : Templ := { keys := [], roots := [], ylds := [], H := [(9, .loop 11 .done (some none) (szOf Try.prog 11) [10, 7, 6] [.ptr 4 0, .ptr 3 0, .ptr 2 0] (rangeOf Try.prog 11 0).1 (rangeOf Try.prog 11 0).2.1 (rangeOf Try.prog 11 0).2.2 8), (8, .mark), (2, .cells 27 [.int .i64 160]), (3, .cells 33 [.nilSl])], n := 11, stay := [2, 3, 4, 5, 6, 7, 8, 9] }
noncomputable def window_judged_1.b0 : Code := loopOf Try.prog 40 0
noncomputable def window_judged_1.k0 : LK window_judged_1.X0 window_judged_1.Y0 := ⟨40, szOf Try.prog 40, false, window_judged_1.tm0, window_judged_1.tr0, window_judged_1.decX0, window_judged_1.encX0, window_judged_1.decY0, window_judged_1.encY0⟩
theorem window_judged_1.k0_ok : window_judged_1.k0.OK := ⟨window_judged_1.decX0_ok, window_judged_1.decY0_ok, (by show ∀ j ∈ [2, 3, 4, 5, 6, 7, 8, 9], j < 11; decide), (by show ∀ j ∈ ([] : List Nat), j ∈ ([2, 3, 4, 5, 6, 7, 8, 9] : List Nat); decide), rfl⟩
def window_judged_1.step0 (x : window_judged_1.X0) : Option (window_judged_1.X0 ⊕ (window_judged_1.X0 ⊕ window_judged_1.Y0)) :=
  (if x.fst < x.snd.fst then (if 0 ≤ x.fst ∧ x.fst < Int.ofNat x.snd.snd.fst.length then ((window_Judge.f x.snd.snd.snd.snd.snd.snd.fst x.snd.snd.snd.snd.snd.snd.snd.fst x.snd.snd.snd.snd.snd.snd.snd.snd.fst x.snd.snd.snd.snd.snd.snd.snd.snd.snd.fst x.snd.snd.snd.snd.snd.snd.snd.snd.snd.snd.fst x.snd.snd.snd.snd.snd.snd.snd.snd.snd.snd.snd.fst x.snd.snd.snd.snd.snd.snd.snd.snd.snd.snd.snd.snd.fst x.snd.snd.snd.snd.snd.snd.snd.snd.snd.snd.snd.snd.snd.fst x.snd.snd.snd.snd.snd.snd.snd.snd.snd.snd.snd.snd.snd.snd.fst x.snd.snd.snd.snd.snd.snd.snd.snd.snd.snd.snd.snd.snd.snd.snd.fst x.snd.snd.snd.snd.snd.snd.snd.snd.snd.snd.snd.snd.snd.snd.snd.snd.fst x.snd.snd.snd.snd.snd.snd.snd.snd.snd.snd.snd.snd.snd.snd.snd.snd.snd.fst x.snd.snd.snd.snd.snd.snd.snd.snd.snd.snd.snd.snd.snd.snd.snd.snd.snd.snd.fst x.snd.snd.snd.snd.snd.snd.snd.snd.snd.snd.snd.snd.snd.snd.snd.snd.snd.snd.snd.fst x.snd.snd.snd.snd.snd.snd.snd.snd.snd.snd.snd.snd.snd.snd.snd.snd.snd.snd.snd.snd.fst x.snd.snd.snd.snd.snd.snd.snd.snd.snd.snd.snd.snd.snd.snd.snd.snd.snd.snd.snd.snd.snd.fst x.snd.snd.snd.snd.fst x.snd.snd.snd.snd.snd.fst (x.snd.snd.fst.getD x.fst.toNat (Ty.int IntKind.i64).dflt)).bind fun t0 => (if t0.fst = 0 then some (Sum.inr (Sum.inr ())) else (if t0.fst = 2 then (if Int.ofNat x.snd.snd.snd.snd.snd.snd.snd.snd.snd.snd.snd.snd.snd.snd.snd.snd.snd.snd.snd.snd.snd.snd.fst.length + 1 ≤ 15637498706147 then some (Sum.inl (wrap64 (x.fst + 1), x.snd.fst, x.snd.snd.fst, x.snd.snd.snd.fst, x.snd.snd.snd.snd.fst, x.snd.snd.snd.snd.snd.fst, x.snd.snd.snd.snd.snd.snd.fst, x.snd.snd.snd.snd.snd.snd.snd.fst, x.snd.snd.snd.snd.snd.snd.snd.snd.fst, x.snd.snd.snd.snd.snd.snd.snd.snd.snd.fst, x.snd.snd.snd.snd.snd.snd.snd.snd.snd.snd.fst, x.snd.snd.snd.snd.snd.snd.snd.snd.snd.snd.snd.fst, x.snd.snd.snd.snd.snd.snd.snd.snd.snd.snd.snd.snd.fst, x.snd.snd.snd.snd.snd.snd.snd.snd.snd.snd.snd.snd.snd.fst, x.snd.snd.snd.snd.snd.snd.snd.snd.snd.snd.snd.snd.snd.snd.fst, x.snd.snd.snd.snd.snd.snd.snd.snd.snd.snd.snd.snd.snd.snd.snd.fst, x.snd.snd.snd.snd.snd.snd.snd.snd.snd.snd.snd.snd.snd.snd.snd.snd.fst, x.snd.snd.snd.snd.snd.snd.snd.snd.snd.snd.snd.snd.snd.snd.snd.snd.snd.fst, x.snd.snd.snd.snd.snd.snd.snd.snd.snd.snd.snd.snd.snd.snd.snd.snd.snd.snd.fst, x.snd.snd.snd.snd.snd.snd.snd.snd.snd.snd.snd.snd.snd.snd.snd.snd.snd.snd.snd.fst, x.snd.snd.snd.snd.snd.snd.snd.snd.snd.snd.snd.snd.snd.snd.snd.snd.snd.snd.snd.snd.fst, x.snd.snd.snd.snd.snd.snd.snd.snd.snd.snd.snd.snd.snd.snd.snd.snd.snd.snd.snd.snd.snd.fst, x.snd.snd.snd.snd.snd.snd.snd.snd.snd.snd.snd.snd.snd.snd.snd.snd.snd.snd.snd.snd.snd.snd.fst ++ [t0.snd.fst], x.snd.snd.snd.snd.snd.snd.snd.snd.snd.snd.snd.snd.snd.snd.snd.snd.snd.snd.snd.snd.snd.snd.snd)) else none) else some (Sum.inl (wrap64 (x.fst + 1), x.snd.fst, x.snd.snd.fst, x.snd.snd.snd.fst, x.snd.snd.snd.snd.fst, x.snd.snd.snd.snd.snd.fst, x.snd.snd.snd.snd.snd.snd.fst, x.snd.snd.snd.snd.snd.snd.snd.fst, x.snd.snd.snd.snd.snd.snd.snd.snd.fst, x.snd.snd.snd.snd.snd.snd.snd.snd.snd.fst, x.snd.snd.snd.snd.snd.snd.snd.snd.snd.snd.fst, x.snd.snd.snd.snd.snd.snd.snd.snd.snd.snd.snd.fst, x.snd.snd.snd.snd.snd.snd.snd.snd.snd.snd.snd.snd.fst, x.snd.snd.snd.snd.snd.snd.snd.snd.snd.snd.snd.snd.snd.fst, x.snd.snd.snd.snd.snd.snd.snd.snd.snd.snd.snd.snd.snd.snd.fst, x.snd.snd.snd.snd.snd.snd.snd.snd.snd.snd.snd.snd.snd.snd.snd.fst, x.snd.snd.snd.snd.snd.snd.snd.snd.snd.snd.snd.snd.snd.snd.snd.snd.fst, x.snd.snd.snd.snd.snd.snd.snd.snd.snd.snd.snd.snd.snd.snd.snd.snd.snd.fst, x.snd.snd.snd.snd.snd.snd.snd.snd.snd.snd.snd.snd.snd.snd.snd.snd.snd.snd.fst, x.snd.snd.snd.snd.snd.snd.snd.snd.snd.snd.snd.snd.snd.snd.snd.snd.snd.snd.snd.fst, x.snd.snd.snd.snd.snd.snd.snd.snd.snd.snd.snd.snd.snd.snd.snd.snd.snd.snd.snd.snd.fst, x.snd.snd.snd.snd.snd.snd.snd.snd.snd.snd.snd.snd.snd.snd.snd.snd.snd.snd.snd.snd.snd.fst, x.snd.snd.snd.snd.snd.snd.snd.snd.snd.snd.snd.snd.snd.snd.snd.snd.snd.snd.snd.snd.snd.snd.fst, x.snd.snd.snd.snd.snd.snd.snd.snd.snd.snd.snd.snd.snd.snd.snd.snd.snd.snd.snd.snd.snd.snd.snd))))) else none) else some (Sum.inr (Sum.inl (x.fst, x.snd.fst, x.snd.snd.fst, x.snd.snd.snd.fst, x.snd.snd.snd.snd.fst, x.snd.snd.snd.snd.snd.fst, x.snd.snd.snd.snd.snd.snd.fst, x.snd.snd.snd.snd.snd.snd.snd.fst, x.snd.snd.snd.snd.snd.snd.snd.snd.fst, x.snd.snd.snd.snd.snd.snd.snd.snd.snd.fst, x.snd.snd.snd.snd.snd.snd.snd.snd.snd.snd.fst, x.snd.snd.snd.snd.snd.snd.snd.snd.snd.snd.snd.fst, x.snd.snd.snd.snd.snd.snd.snd.snd.snd.snd.snd.snd.fst, x.snd.snd.snd.snd.snd.snd.snd.snd.snd.snd.snd.snd.snd.fst, x.snd.snd.snd.snd.snd.snd.snd.snd.snd.snd.snd.snd.snd.snd.fst, x.snd.snd.snd.snd.snd.snd.snd.snd.snd.snd.snd.snd.snd.snd.snd.fst, x.snd.snd.snd.snd.snd.snd.snd.snd.snd.snd.snd.snd.snd.snd.snd.snd.fst, x.snd.snd.snd.snd.snd.snd.snd.snd.snd.snd.snd.snd.snd.snd.snd.snd.snd.fst, x.snd.snd.snd.snd.snd.snd.snd.snd.snd.snd.snd.snd.snd.snd.snd.snd.snd.snd.fst, x.snd.snd.snd.snd.snd.snd.snd.snd.snd.snd.snd.snd.snd.snd.snd.snd.snd.snd.snd.fst, x.snd.snd.snd.snd.snd.snd.snd.snd.snd.snd.snd.snd.snd.snd.snd.snd.snd.snd.snd.snd.fst, x.snd.snd.snd.snd.snd.snd.snd.snd.snd.snd.snd.snd.snd.snd.snd.snd.snd.snd.snd.snd.snd.fst, x.snd.snd.snd.snd.snd.snd.snd.snd.snd.snd.snd.snd.snd.snd.snd.snd.snd.snd.snd.snd.snd.snd.fst, x.snd.snd.snd.snd.snd.snd.snd.snd.snd.snd.snd.snd.snd.snd.snd.snd.snd.snd.snd.snd.snd.snd.snd))))
set_option maxRecDepth 100000 in
theorem window_judged_1.step0_eq (x : window_judged_1.X0) : (roundT Try.prog (ctOf tab_S2) (ltOf lt_S2) 100000 window_judged_1.k0 0 window_judged_1.b0 (window_judged_1.encX0 x)).strip.opt (leafD window_judged_1.decX0 window_judged_1.decY0) = window_judged_1.step0 x := by kernel_rfl
set_option maxRecDepth 100000 in
theorem window_judged_1.step0_fix (x : window_judged_1.X0) : (roundT Try.prog (ctOf tab_S2) (ltOf lt_S2) 100000 window_judged_1.k0 0 window_judged_1.b0 (window_judged_1.encX0 x)).fixed = roundT Try.prog (ctOf tab_S2) (ltOf lt_S2) 100000 window_judged_1.k0 0 window_judged_1.b0 (window_judged_1.encX0 x) := by kernel_rfl
noncomputable def window_judged_1.lt0 : List (Nat × Nat × LC) := (40, 0, window_judged_1.k0.lc window_judged_1.step0 window_judged_1.b0) :: lt_S2
theorem window_judged_1.lt0_ok : LtOK Try.prog (ltOf window_judged_1.lt0) := ltOf_cons named mixed tab_S2_ok.ct lt_S2_ok window_judged_1.k0_ok window_judged_1.step0_fix window_judged_1.step0_eq lt_S2_ok
abbrev window_Keep.X : Type := Int × Int × Int × Int × Int × Int × Int × Int × Int × Int × Int × Int × Int × Int × Int × Int × Int × Int × (List (Int))
def window_Keep.decX : List AV → Option window_Keep.X
  | [.agg [y0, y1, y2, y3, y4, y5, y6, y7, y8, y9, y10, y11, y12, y13, y14, y15], .agg [y16, y17], y18] => (dI .i64 y0).bind fun n0 => (dI .i64 y1).bind fun n1 => (dI .i64 y2).bind fun n2 => (dI .i64 y3).bind fun n3 => (dI .i64 y4).bind fun n4 => (dI .i64 y5).bind fun n5 => (dI .i64 y6).bind fun n6 => (dI .i64 y7).bind fun n7 => (dI .i64 y8).bind fun n8 => (dI .i64 y9).bind fun n9 => (dI .i64 y10).bind fun n10 => (dI .i64 y11).bind fun n11 => (dI .i64 y12).bind fun n12 => (dI .i64 y13).bind fun n13 => (dI .i64 y14).bind fun n14 => (dI .i64 y15).bind fun n15 => (dI .i64 y16).bind fun n16 => (dI .i64 y17).bind fun n17 => (dLst 0 (.int .i64) y18).bind fun n18 => some (n0, n1, n2, n3, n4, n5, n6, n7, n8, n9, n10, n11, n12, n13, n14, n15, n16, n17, n18)
  | _ => none
def window_Keep.encX (x : window_Keep.X) : List AV := [.agg [.int .i64 (.s x.1), .int .i64 (.s x.2.1), .int .i64 (.s x.2.2.1), .int .i64 (.s x.2.2.2.1), .int .i64 (.s x.2.2.2.2.1), .int .i64 (.s x.2.2.2.2.2.1), .int .i64 (.s x.2.2.2.2.2.2.1), .int .i64 (.s x.2.2.2.2.2.2.2.1), .int .i64 (.s x.2.2.2.2.2.2.2.2.1), .int .i64 (.s x.2.2.2.2.2.2.2.2.2.1), .int .i64 (.s x.2.2.2.2.2.2.2.2.2.2.1), .int .i64 (.s x.2.2.2.2.2.2.2.2.2.2.2.1), .int .i64 (.s x.2.2.2.2.2.2.2.2.2.2.2.2.1), .int .i64 (.s x.2.2.2.2.2.2.2.2.2.2.2.2.2.1), .int .i64 (.s x.2.2.2.2.2.2.2.2.2.2.2.2.2.2.1), .int .i64 (.s x.2.2.2.2.2.2.2.2.2.2.2.2.2.2.2.1)], .agg [.int .i64 (.s x.2.2.2.2.2.2.2.2.2.2.2.2.2.2.2.2.1), .int .i64 (.s x.2.2.2.2.2.2.2.2.2.2.2.2.2.2.2.2.2.1)], .lst 0 (.int .i64) x.2.2.2.2.2.2.2.2.2.2.2.2.2.2.2.2.2.2 none]
theorem window_Keep.decX_ok (ys : List AV) (x : window_Keep.X) (h : window_Keep.decX ys = some x) : Ptw ys (window_Keep.encX x) := by
  unfold window_Keep.decX at h
  split at h
  · obtain ⟨n0, e0, h⟩ := Option.bind_eq_some_iff.1 h
    obtain ⟨n1, e1, h⟩ := Option.bind_eq_some_iff.1 h
    obtain ⟨n2, e2, h⟩ := Option.bind_eq_some_iff.1 h
    obtain ⟨n3, e3, h⟩ := Option.bind_eq_some_iff.1 h
    obtain ⟨n4, e4, h⟩ := Option.bind_eq_some_iff.1 h
    obtain ⟨n5, e5, h⟩ := Option.bind_eq_some_iff.1 h
    obtain ⟨n6, e6, h⟩ := Option.bind_eq_some_iff.1 h
    obtain ⟨n7, e7, h⟩ := Option.bind_eq_some_iff.1 h
    obtain ⟨n8, e8, h⟩ := Option.bind_eq_some_iff.1 h
    obtain ⟨n9, e9, h⟩ := Option.bind_eq_some_iff.1 h
    obtain ⟨n10, e10, h⟩ := Option.bind_eq_some_iff.1 h
    obtain ⟨n11, e11, h⟩ := Option.bind_eq_some_iff.1 h
    obtain ⟨n12, e12, h⟩ := Option.bind_eq_some_iff.1 h
    obtain ⟨n13, e13, h⟩ := Option.bind_eq_some_iff.1 h
    obtain ⟨n14, e14, h⟩ := Option.bind_eq_some_iff.1 h
    obtain ⟨n15, e15, h⟩ := Option.bind_eq_some_iff.1 h
    obtain ⟨n16, e16, h⟩ := Option.bind_eq_some_iff.1 h
    obtain ⟨n17, e17, h⟩ := Option.bind_eq_some_iff.1 h
    obtain ⟨n18, e18, h⟩ := Option.bind_eq_some_iff.1 h
    cases h
    exact ⟨agg_p ⟨dI_p e0, ⟨dI_p e1, ⟨dI_p e2, ⟨dI_p e3, ⟨dI_p e4, ⟨dI_p e5, ⟨dI_p e6, ⟨dI_p e7, ⟨dI_p e8, ⟨dI_p e9, ⟨dI_p e10, ⟨dI_p e11, ⟨dI_p e12, ⟨dI_p e13, ⟨dI_p e14, ⟨dI_p e15, trivial⟩⟩⟩⟩⟩⟩⟩⟩⟩⟩⟩⟩⟩⟩⟩⟩, ⟨agg_p ⟨dI_p e16, ⟨dI_p e17, trivial⟩⟩, ⟨dLst_ok e18, trivial⟩⟩⟩
  · cases h
abbrev window_Keep.Y : Type := Int × (List (Int))
def window_Keep.decY : List AV → Option window_Keep.Y
  | [y0, y1] => (dI .i64 y0).bind fun n0 => (dL (.int .i64) y1).bind fun n1 => some (n0, n1)
  | _ => none
def window_Keep.encY (x : window_Keep.Y) : List AV := [.int .i64 (.s x.1), .ro (.int .i64) x.2]
theorem window_Keep.decY_ok (ys : List AV) (x : window_Keep.Y) (h : window_Keep.decY ys = some x) : Ptw ys (window_Keep.encY x) := by
  unfold window_Keep.decY at h
  split at h
  · obtain ⟨n0, e0, h⟩ := Option.bind_eq_some_iff.1 h
    obtain ⟨n1, e1, h⟩ := Option.bind_eq_some_iff.1 h
    cases h
    exact ⟨dI_p e0, ⟨dL_ok e1, trivial⟩⟩
  · cases h
noncomputable def window_Keep.tr : Templ := { keys := [], roots := [.tup [.hole, .own 0]], ylds := [], H := [(0, .vec 2 (.int .i64) true)], n := 1, stay := [] }
noncomputable def window_Keep.k : RK window_Keep.X window_Keep.Y := ⟨[.flat, .flat, .sl (.int .i64)], window_Keep.decX, window_Keep.encX, window_Keep.tr, window_Keep.decY, window_Keep.encY⟩
theorem window_Keep.k_ok : window_Keep.k.OK := ⟨window_Keep.decX_ok, window_Keep.decY_ok, fun _ => ⟨rfl, rfl⟩⟩
def window_Keep.f (x : window_Keep.X) : Option (window_Keep.Y) :=
  ((table_Begin.f x.fst x.snd.fst x.snd.snd.fst x.snd.snd.snd.fst x.snd.snd.snd.snd.fst x.snd.snd.snd.snd.snd.fst x.snd.snd.snd.snd.snd.snd.fst x.snd.snd.snd.snd.snd.snd.snd.fst x.snd.snd.snd.snd.snd.snd.snd.snd.fst x.snd.snd.snd.snd.snd.snd.snd.snd.snd.fst x.snd.snd.snd.snd.snd.snd.snd.snd.snd.snd.fst x.snd.snd.snd.snd.snd.snd.snd.snd.snd.snd.snd.fst x.snd.snd.snd.snd.snd.snd.snd.snd.snd.snd.snd.snd.fst x.snd.snd.snd.snd.snd.snd.snd.snd.snd.snd.snd.snd.snd.fst x.snd.snd.snd.snd.snd.snd.snd.snd.snd.snd.snd.snd.snd.snd.fst x.snd.snd.snd.snd.snd.snd.snd.snd.snd.snd.snd.snd.snd.snd.snd.fst x.snd.snd.snd.snd.snd.snd.snd.snd.snd.snd.snd.snd.snd.snd.snd.snd.fst x.snd.snd.snd.snd.snd.snd.snd.snd.snd.snd.snd.snd.snd.snd.snd.snd.snd.fst).bind fun t0 => (if t0.snd ≠ 0 then some (160, []) else ((guardEq window_judged_1.b0.loop window_judged_1.b0.loop (rounds window_judged_1.step0 (0, Int.ofNat x.snd.snd.snd.snd.snd.snd.snd.snd.snd.snd.snd.snd.snd.snd.snd.snd.snd.snd.length, x.snd.snd.snd.snd.snd.snd.snd.snd.snd.snd.snd.snd.snd.snd.snd.snd.snd.snd, x.snd.snd.snd.snd.snd.snd.snd.snd.snd.snd.snd.snd.snd.snd.snd.snd.snd.snd, x.snd.snd.snd.snd.snd.snd.snd.snd.snd.snd.snd.snd.snd.snd.snd.snd.fst, x.snd.snd.snd.snd.snd.snd.snd.snd.snd.snd.snd.snd.snd.snd.snd.snd.snd.fst, x.fst, x.snd.fst, x.snd.snd.fst, x.snd.snd.snd.fst, x.snd.snd.snd.snd.fst, x.snd.snd.snd.snd.snd.fst, x.snd.snd.snd.snd.snd.snd.fst, x.snd.snd.snd.snd.snd.snd.snd.fst, x.snd.snd.snd.snd.snd.snd.snd.snd.fst, x.snd.snd.snd.snd.snd.snd.snd.snd.snd.fst, x.snd.snd.snd.snd.snd.snd.snd.snd.snd.snd.fst, x.snd.snd.snd.snd.snd.snd.snd.snd.snd.snd.snd.fst, x.snd.snd.snd.snd.snd.snd.snd.snd.snd.snd.snd.snd.fst, x.snd.snd.snd.snd.snd.snd.snd.snd.snd.snd.snd.snd.snd.fst, x.snd.snd.snd.snd.snd.snd.snd.snd.snd.snd.snd.snd.snd.snd.fst, x.snd.snd.snd.snd.snd.snd.snd.snd.snd.snd.snd.snd.snd.snd.snd.fst, [], 0))).bind fun t1 => (match t1 with | .inl x2 => (sameO (some (0, x2.snd.snd.snd.snd.snd.snd.snd.snd.snd.snd.snd.snd.snd.snd.snd.snd.snd.snd.snd.snd.snd.snd.fst)) (some (0, x2.snd.snd.snd.snd.snd.snd.snd.snd.snd.snd.snd.snd.snd.snd.snd.snd.snd.snd.snd.snd.snd.snd.fst))) | .inr y2 => some (160, [])))))
set_option maxRecDepth 100000 in
theorem window_Keep.f_eq (x : window_Keep.X) : (walk Try.prog (ctOf tab_S2) (ltOf window_judged_1.lt0) 100000 11 (window_Keep.encX x) [] 0).strip.opt window_Keep.k.leaf = window_Keep.f x := by kernel_rfl
set_option maxRecDepth 100000 in
theorem window_Keep.f_fix (x : window_Keep.X) : (walk Try.prog (ctOf tab_S2) (ltOf window_judged_1.lt0) 100000 11 (window_Keep.encX x) [] 0).fixed = walk Try.prog (ctOf tab_S2) (ltOf window_judged_1.lt0) 100000 11 (window_Keep.encX x) [] 0 := by kernel_rfl
noncomputable def window_Keep.c : Entry := markW (window_Keep.k.c window_Keep.f)
theorem window_Keep.ok : EntryOK Try.prog 11 window_Keep.c := markW_ok (rk_ok named mixed tab_S2_ok.ct window_judged_1.lt0_ok window_Keep.k_ok window_Keep.f_fix window_Keep.f_eq)
noncomputable def t_window_Keep : List (Nat × Entry) := (11, window_Keep.c) :: tab_S2
theorem t_window_Keep_ok : TabOK Try.prog t_window_Keep := TabOK.cons window_Keep.ok tab_S2_ok
noncomputable abbrev tab_S3 : List (Nat × Entry) := t_window_Keep
theorem tab_S3_ok : TabOK Try.prog tab_S3 := t_window_Keep_ok
noncomputable abbrev lt_S3 : List (Nat × Nat × LC) := window_judged_1.lt0
theorem lt_S3_ok : LtOK Try.prog (ltOf lt_S3) := window_judged_1.lt0_ok
end
end Go.Proofs.Ytlekjgjhbanimaa.S
