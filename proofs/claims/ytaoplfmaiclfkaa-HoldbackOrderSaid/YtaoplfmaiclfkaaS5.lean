/- Contracts by the symbolic walk: holdback_Hold_ripe_1, holdback_Hold_Take. -/
import Derived.Test.YtaoplfmaiclfkaaProg
import Derived.Test.YtaoplfmaiclfkaaSXo
import Derived.Test.YtaoplfmaiclfkaaS4
namespace Go.Proofs.Ytaoplfmaiclfkaa.S
open Go Go.RowKit Go.Proofs.Ytaoplfmaiclfkaa.SX Go.Proofs
set_option linter.unusedVariables false
noncomputable section
abbrev holdback_Hold_ripe_1.X0 : Type := Bool × Int × Int × (List (Int × Int × Int × (List (Int)))) × Int × Int × Int × Int × Int × Int × Int × Int × Int × Int × Int × Int × Int × Int × Int × Int × (List (Int × Int × Int × (List (Int))))
def holdback_Hold_ripe_1.decX0 : List AV → Option holdback_Hold_ripe_1.X0
  | [y0, y1, y2, y3, y4, y5, y6, y7, y8, y9, y10, y11, y12, y13, y14, y15, y16, y17, y18, y19, y20] => (dB y0).bind fun n0 => (dI .i64 y1).bind fun n1 => (dI .i64 y2).bind fun n2 => (dL (.pair (.int .i64) (.pair (.int .i64) (.pair (.int .i64) (.sl (.int .u8))))) y3).bind fun n3 => (dI .i64 y4).bind fun n4 => (dI .i64 y5).bind fun n5 => (dI .i64 y6).bind fun n6 => (dI .i64 y7).bind fun n7 => (dI .i64 y8).bind fun n8 => (dI .i64 y9).bind fun n9 => (dI .i64 y10).bind fun n10 => (dI .i64 y11).bind fun n11 => (dI .i64 y12).bind fun n12 => (dI .i64 y13).bind fun n13 => (dI .i64 y14).bind fun n14 => (dI .i64 y15).bind fun n15 => (dI .i64 y16).bind fun n16 => (dI .i64 y17).bind fun n17 => (dI .i64 y18).bind fun n18 => (dI .i64 y19).bind fun n19 => (dL (.pair (.int .i64) (.pair (.int .i64) (.pair (.int .i64) (.sl (.int .u8))))) y20).bind fun n20 => some (n0, n1, n2, n3, n4, n5, n6, n7, n8, n9, n10, n11, n12, n13, n14, n15, n16, n17, n18, n19, n20)
  | _ => none
def holdback_Hold_ripe_1.encX0 (x : holdback_Hold_ripe_1.X0) : List AV := [.bool (.s x.1), .int .i64 (.s x.2.1), .int .i64 (.s x.2.2.1), .ro (.pair (.int .i64) (.pair (.int .i64) (.pair (.int .i64) (.sl (.int .u8))))) x.2.2.2.1, .int .i64 (.s x.2.2.2.2.1), .int .i64 (.s x.2.2.2.2.2.1), .int .i64 (.s x.2.2.2.2.2.2.1), .int .i64 (.s x.2.2.2.2.2.2.2.1), .int .i64 (.s x.2.2.2.2.2.2.2.2.1), .int .i64 (.s x.2.2.2.2.2.2.2.2.2.1), .int .i64 (.s x.2.2.2.2.2.2.2.2.2.2.1), .int .i64 (.s x.2.2.2.2.2.2.2.2.2.2.2.1), .int .i64 (.s x.2.2.2.2.2.2.2.2.2.2.2.2.1), .int .i64 (.s x.2.2.2.2.2.2.2.2.2.2.2.2.2.1), .int .i64 (.s x.2.2.2.2.2.2.2.2.2.2.2.2.2.2.1), .int .i64 (.s x.2.2.2.2.2.2.2.2.2.2.2.2.2.2.2.1), .int .i64 (.s x.2.2.2.2.2.2.2.2.2.2.2.2.2.2.2.2.1), .int .i64 (.s x.2.2.2.2.2.2.2.2.2.2.2.2.2.2.2.2.2.1), .int .i64 (.s x.2.2.2.2.2.2.2.2.2.2.2.2.2.2.2.2.2.2.1), .int .i64 (.s x.2.2.2.2.2.2.2.2.2.2.2.2.2.2.2.2.2.2.2.1), .ro (.pair (.int .i64) (.pair (.int .i64) (.pair (.int .i64) (.sl (.int .u8))))) x.2.2.2.2.2.2.2.2.2.2.2.2.2.2.2.2.2.2.2.2]
theorem holdback_Hold_ripe_1.decX0_ok (ys : List AV) (x : holdback_Hold_ripe_1.X0) (h : holdback_Hold_ripe_1.decX0 ys = some x) : Ptw ys (holdback_Hold_ripe_1.encX0 x) := by
  unfold holdback_Hold_ripe_1.decX0 at h
  split at h
  · obtain ⟨n0, e0, h⟩ := Bq h
    obtain ⟨n1, e1, h⟩ := Bq h
    obtain ⟨n2, e2, h⟩ := Bq h
    obtain ⟨n3, e3, h⟩ := Bq h
    obtain ⟨n4, e4, h⟩ := Bq h
    obtain ⟨n5, e5, h⟩ := Bq h
    obtain ⟨n6, e6, h⟩ := Bq h
    obtain ⟨n7, e7, h⟩ := Bq h
    obtain ⟨n8, e8, h⟩ := Bq h
    obtain ⟨n9, e9, h⟩ := Bq h
    obtain ⟨n10, e10, h⟩ := Bq h
    obtain ⟨n11, e11, h⟩ := Bq h
    obtain ⟨n12, e12, h⟩ := Bq h
    obtain ⟨n13, e13, h⟩ := Bq h
    obtain ⟨n14, e14, h⟩ := Bq h
    obtain ⟨n15, e15, h⟩ := Bq h
    obtain ⟨n16, e16, h⟩ := Bq h
    obtain ⟨n17, e17, h⟩ := Bq h
    obtain ⟨n18, e18, h⟩ := Bq h
    obtain ⟨n19, e19, h⟩ := Bq h
    obtain ⟨n20, e20, h⟩ := Bq h
    cases h
    exact ⟨dB_p e0, ⟨dI_p e1, ⟨dI_p e2, ⟨dL_ok e3, ⟨dI_p e4, ⟨dI_p e5, ⟨dI_p e6, ⟨dI_p e7, ⟨dI_p e8, ⟨dI_p e9, ⟨dI_p e10, ⟨dI_p e11, ⟨dI_p e12, ⟨dI_p e13, ⟨dI_p e14, ⟨dI_p e15, ⟨dI_p e16, ⟨dI_p e17, ⟨dI_p e18, ⟨dI_p e19, ⟨dL_ok e20, trivial⟩⟩⟩⟩⟩⟩⟩⟩⟩⟩⟩⟩⟩⟩⟩⟩⟩⟩⟩⟩⟩
  · cases h
abbrev holdback_Hold_ripe_1.Y0 : Type := Unit
def holdback_Hold_ripe_1.decY0 : List AV → Option holdback_Hold_ripe_1.Y0
  | [] => some ()
  | _ => none
def holdback_Hold_ripe_1.encY0 (x : holdback_Hold_ripe_1.Y0) : List AV := []
theorem holdback_Hold_ripe_1.decY0_ok (ys : List AV) (x : holdback_Hold_ripe_1.Y0) (h : holdback_Hold_ripe_1.decY0 ys = some x) : Ptw ys (holdback_Hold_ripe_1.encY0 x) := by
  unfold holdback_Hold_ripe_1.decY0 at h
  split at h
  · cases h
    exact trivial
  · cases h
noncomputable def holdback_Hold_ripe_1.tm0 : Templ := { keys := [5, 4, 0, 1, 2], roots := [.hole, .hole, .yld 6, .ptr 3 0, .ptr 4 0], ylds := [], H := [(6, .loop 9 .ready (none) (szOf Try.prog 9) [5, 4] [.ptr 2 0, .nilSl] (rangeOf Try.prog 9 0).1 (rangeOf Try.prog 9 0).2.1 (rangeOf Try.prog 9 0).2.2 5), (5, .mark), (4, .cells 2 [.hole]), (3, .cells 22 [.ptr 0 0]), (2, .cells 24 [.own 7]), (7, .vec 29 (.pair (.int .i64) (.pair (.int .i64) (.pair (.int .i64) (.sl (.int .u8))))) true), (0, .cells 45 [.hole, .hole, .hole, .hole, .hole, .hole, .hole, .hole, .hole, .hole, .hole, .hole, .hole, .hole, .hole, .hole, .own 1]), (1, .vec 29 (.pair (.int .i64) (.pair (.int .i64) (.pair (.int .i64) (.sl (.int .u8))))) true)], n := 8, stay := [0, 2, 3, 4, 5, 6] }
noncomputable def holdback_Hold_ripe_1.tr0 : Templ := { keys := [], roots := [], ylds := [], H := [], n := 8, stay := [0, 2, 3, 4, 5, 6] }
noncomputable def holdback_Hold_ripe_1.b0 : Code := loopOf Try.prog 54 0
noncomputable def holdback_Hold_ripe_1.k0 : LK holdback_Hold_ripe_1.X0 holdback_Hold_ripe_1.Y0 := .one 54 (szOf Try.prog 54) false holdback_Hold_ripe_1.tm0 holdback_Hold_ripe_1.tr0 holdback_Hold_ripe_1.decX0 holdback_Hold_ripe_1.encX0 holdback_Hold_ripe_1.decY0 holdback_Hold_ripe_1.encY0
theorem holdback_Hold_ripe_1.k0_ok : holdback_Hold_ripe_1.k0.OK := LK.one_ok holdback_Hold_ripe_1.decX0_ok holdback_Hold_ripe_1.decY0_ok (by show ∀ j ∈ ([0, 2, 3, 4, 5, 6] : List Nat), j < 8; decide) (by show ∀ j ∈ ([] : List Nat), j ∈ ([0, 2, 3, 4, 5, 6] : List Nat); decide) rfl
def holdback_Hold_ripe_1.step0 (x : holdback_Hold_ripe_1.X0) : Option (holdback_Hold_ripe_1.X0 ⊕ (holdback_Hold_ripe_1.X0 ⊕ holdback_Hold_ripe_1.Y0)) :=
  (if x.1 = true then (if x.2.1 ≤ x.2.2.1 then (if 0 ≤ wrap64 (Int.ofNat x.2.2.2.2.2.2.2.2.2.2.2.2.2.2.2.2.2.2.2.2.length - 1) ∧ wrap64 (Int.ofNat x.2.2.2.2.2.2.2.2.2.2.2.2.2.2.2.2.2.2.2.2.length - 1) < Int.ofNat x.2.2.2.2.2.2.2.2.2.2.2.2.2.2.2.2.2.2.2.2.length then (if (0 : Int) ≤ (0 : Int) ∧ (0 : Int) < Int.ofNat x.2.2.2.2.2.2.2.2.2.2.2.2.2.2.2.2.2.2.2.2.length then (if (0 : Int) ≤ (0 : Int) ∧ (0 : Int) < Int.ofNat x.2.2.2.2.2.2.2.2.2.2.2.2.2.2.2.2.2.2.2.2.length then (if 0 ≤ wrap64 (Int.ofNat x.2.2.2.2.2.2.2.2.2.2.2.2.2.2.2.2.2.2.2.2.length - 1) ∧ wrap64 (Int.ofNat x.2.2.2.2.2.2.2.2.2.2.2.2.2.2.2.2.2.2.2.2.length - 1) < Int.ofNat x.2.2.2.2.2.2.2.2.2.2.2.2.2.2.2.2.2.2.2.2.length then ((container_heap_down.f (0, wrap64 (Int.ofNat x.2.2.2.2.2.2.2.2.2.2.2.2.2.2.2.2.2.2.2.2.length - 1), x.2.2.2.2.1, x.2.2.2.2.2.1, x.2.2.2.2.2.2.1, x.2.2.2.2.2.2.2.1, x.2.2.2.2.2.2.2.2.1, x.2.2.2.2.2.2.2.2.2.1, x.2.2.2.2.2.2.2.2.2.2.1, x.2.2.2.2.2.2.2.2.2.2.2.1, x.2.2.2.2.2.2.2.2.2.2.2.2.1, x.2.2.2.2.2.2.2.2.2.2.2.2.2.1, x.2.2.2.2.2.2.2.2.2.2.2.2.2.2.1, x.2.2.2.2.2.2.2.2.2.2.2.2.2.2.2.1, x.2.2.2.2.2.2.2.2.2.2.2.2.2.2.2.2.1, x.2.2.2.2.2.2.2.2.2.2.2.2.2.2.2.2.2.1, x.2.2.2.2.2.2.2.2.2.2.2.2.2.2.2.2.2.2.1, x.2.2.2.2.2.2.2.2.2.2.2.2.2.2.2.2.2.2.2.1, (x.2.2.2.2.2.2.2.2.2.2.2.2.2.2.2.2.2.2.2.2.set (Int.toNat 0) ((x.2.2.2.2.2.2.2.2.2.2.2.2.2.2.2.2.2.2.2.2.getD (wrap64 (Int.ofNat x.2.2.2.2.2.2.2.2.2.2.2.2.2.2.2.2.2.2.2.2.length - 1)).toNat dMs).1, (x.2.2.2.2.2.2.2.2.2.2.2.2.2.2.2.2.2.2.2.2.getD (wrap64 (Int.ofNat x.2.2.2.2.2.2.2.2.2.2.2.2.2.2.2.2.2.2.2.2.length - 1)).toNat dMs).2.1, (x.2.2.2.2.2.2.2.2.2.2.2.2.2.2.2.2.2.2.2.2.getD (wrap64 (Int.ofNat x.2.2.2.2.2.2.2.2.2.2.2.2.2.2.2.2.2.2.2.2.length - 1)).toNat dMs).2.2.1, (x.2.2.2.2.2.2.2.2.2.2.2.2.2.2.2.2.2.2.2.2.getD (wrap64 (Int.ofNat x.2.2.2.2.2.2.2.2.2.2.2.2.2.2.2.2.2.2.2.2.length - 1)).toNat dMs).2.2.2)).set (wrap64 (Int.ofNat x.2.2.2.2.2.2.2.2.2.2.2.2.2.2.2.2.2.2.2.2.length - 1)).toNat ((x.2.2.2.2.2.2.2.2.2.2.2.2.2.2.2.2.2.2.2.2.getD (Int.toNat 0) dMs).1, (x.2.2.2.2.2.2.2.2.2.2.2.2.2.2.2.2.2.2.2.2.getD (Int.toNat 0) dMs).2.1, (x.2.2.2.2.2.2.2.2.2.2.2.2.2.2.2.2.2.2.2.2.getD (Int.toNat 0) dMs).2.2.1, (x.2.2.2.2.2.2.2.2.2.2.2.2.2.2.2.2.2.2.2.2.getD (Int.toNat 0) dMs).2.2.2))).bind fun t0 => (if 0 ≤ wrap64 (Int.ofNat t0.2.2.2.2.2.2.2.2.2.2.2.2.2.2.2.2.2.length - 1) ∧ wrap64 (Int.ofNat t0.2.2.2.2.2.2.2.2.2.2.2.2.2.2.2.2.2.length - 1) < Int.ofNat t0.2.2.2.2.2.2.2.2.2.2.2.2.2.2.2.2.2.length then (if 0 ≤ wrap64 (Int.ofNat t0.2.2.2.2.2.2.2.2.2.2.2.2.2.2.2.2.2.length - 1) then (if wrap64 (Int.ofNat t0.2.2.2.2.2.2.2.2.2.2.2.2.2.2.2.2.2.length - 1) ≤ Int.ofNat t0.2.2.2.2.2.2.2.2.2.2.2.2.2.2.2.2.2.length then (if Int.ofNat x.2.2.2.1.length + 1 ≤ 2872193639904 then (if t0.2.1 = 0 then some (Sum.inl (false, 0, x.2.2.1, x.2.2.2.1 ++ [((t0.2.2.2.2.2.2.2.2.2.2.2.2.2.2.2.2.2.getD (wrap64 (Int.ofNat t0.2.2.2.2.2.2.2.2.2.2.2.2.2.2.2.2.2.length - 1)).toNat dMs).1, (t0.2.2.2.2.2.2.2.2.2.2.2.2.2.2.2.2.2.getD (wrap64 (Int.ofNat t0.2.2.2.2.2.2.2.2.2.2.2.2.2.2.2.2.2.length - 1)).toNat dMs).2.1, (t0.2.2.2.2.2.2.2.2.2.2.2.2.2.2.2.2.2.getD (wrap64 (Int.ofNat t0.2.2.2.2.2.2.2.2.2.2.2.2.2.2.2.2.2.length - 1)).toNat dMs).2.2.1, (t0.2.2.2.2.2.2.2.2.2.2.2.2.2.2.2.2.2.getD (wrap64 (Int.ofNat t0.2.2.2.2.2.2.2.2.2.2.2.2.2.2.2.2.2.length - 1)).toNat dMs).2.2.2)], t0.2.1, t0.2.2.1, t0.2.2.2.1, t0.2.2.2.2.1, t0.2.2.2.2.2.1, t0.2.2.2.2.2.2.1, t0.2.2.2.2.2.2.2.1, t0.2.2.2.2.2.2.2.2.1, t0.2.2.2.2.2.2.2.2.2.1, t0.2.2.2.2.2.2.2.2.2.2.1, t0.2.2.2.2.2.2.2.2.2.2.2.1, t0.2.2.2.2.2.2.2.2.2.2.2.2.1, t0.2.2.2.2.2.2.2.2.2.2.2.2.2.1, t0.2.2.2.2.2.2.2.2.2.2.2.2.2.2.1, t0.2.2.2.2.2.2.2.2.2.2.2.2.2.2.2.1, t0.2.2.2.2.2.2.2.2.2.2.2.2.2.2.2.2.1, List.take (wrap64 (Int.ofNat t0.2.2.2.2.2.2.2.2.2.2.2.2.2.2.2.2.2.length - 1)).toNat t0.2.2.2.2.2.2.2.2.2.2.2.2.2.2.2.2.2)) else (if wrap64 (Int.ofNat t0.2.2.2.2.2.2.2.2.2.2.2.2.2.2.2.2.2.length - 1) = 0 then some (Sum.inl (false, 0, x.2.2.1, x.2.2.2.1 ++ [((t0.2.2.2.2.2.2.2.2.2.2.2.2.2.2.2.2.2.getD (wrap64 (Int.ofNat t0.2.2.2.2.2.2.2.2.2.2.2.2.2.2.2.2.2.length - 1)).toNat dMs).1, (t0.2.2.2.2.2.2.2.2.2.2.2.2.2.2.2.2.2.getD (wrap64 (Int.ofNat t0.2.2.2.2.2.2.2.2.2.2.2.2.2.2.2.2.2.length - 1)).toNat dMs).2.1, (t0.2.2.2.2.2.2.2.2.2.2.2.2.2.2.2.2.2.getD (wrap64 (Int.ofNat t0.2.2.2.2.2.2.2.2.2.2.2.2.2.2.2.2.2.length - 1)).toNat dMs).2.2.1, (t0.2.2.2.2.2.2.2.2.2.2.2.2.2.2.2.2.2.getD (wrap64 (Int.ofNat t0.2.2.2.2.2.2.2.2.2.2.2.2.2.2.2.2.2.length - 1)).toNat dMs).2.2.2)], t0.2.1, t0.2.2.1, t0.2.2.2.1, t0.2.2.2.2.1, t0.2.2.2.2.2.1, t0.2.2.2.2.2.2.1, t0.2.2.2.2.2.2.2.1, t0.2.2.2.2.2.2.2.2.1, t0.2.2.2.2.2.2.2.2.2.1, t0.2.2.2.2.2.2.2.2.2.2.1, t0.2.2.2.2.2.2.2.2.2.2.2.1, t0.2.2.2.2.2.2.2.2.2.2.2.2.1, t0.2.2.2.2.2.2.2.2.2.2.2.2.2.1, t0.2.2.2.2.2.2.2.2.2.2.2.2.2.2.1, t0.2.2.2.2.2.2.2.2.2.2.2.2.2.2.2.1, t0.2.2.2.2.2.2.2.2.2.2.2.2.2.2.2.2.1, List.take (wrap64 (Int.ofNat t0.2.2.2.2.2.2.2.2.2.2.2.2.2.2.2.2.2.length - 1)).toNat t0.2.2.2.2.2.2.2.2.2.2.2.2.2.2.2.2.2)) else (if (0 : Int) ≤ (0 : Int) ∧ (0 : Int) < wrap64 (Int.ofNat t0.2.2.2.2.2.2.2.2.2.2.2.2.2.2.2.2.2.length - (1 : Int)) then some (Sum.inl (true, wrap64 ((t0.2.2.2.2.2.2.2.2.2.2.2.2.2.2.2.2.2.getD (Int.toNat 0) dMs).1 + t0.2.2.2.2.2.2.2.2.2.2.2.2.1), x.2.2.1, x.2.2.2.1 ++ [((t0.2.2.2.2.2.2.2.2.2.2.2.2.2.2.2.2.2.getD (wrap64 (Int.ofNat t0.2.2.2.2.2.2.2.2.2.2.2.2.2.2.2.2.2.length - 1)).toNat dMs).1, (t0.2.2.2.2.2.2.2.2.2.2.2.2.2.2.2.2.2.getD (wrap64 (Int.ofNat t0.2.2.2.2.2.2.2.2.2.2.2.2.2.2.2.2.2.length - 1)).toNat dMs).2.1, (t0.2.2.2.2.2.2.2.2.2.2.2.2.2.2.2.2.2.getD (wrap64 (Int.ofNat t0.2.2.2.2.2.2.2.2.2.2.2.2.2.2.2.2.2.length - 1)).toNat dMs).2.2.1, (t0.2.2.2.2.2.2.2.2.2.2.2.2.2.2.2.2.2.getD (wrap64 (Int.ofNat t0.2.2.2.2.2.2.2.2.2.2.2.2.2.2.2.2.2.length - 1)).toNat dMs).2.2.2)], t0.2.1, t0.2.2.1, t0.2.2.2.1, t0.2.2.2.2.1, t0.2.2.2.2.2.1, t0.2.2.2.2.2.2.1, t0.2.2.2.2.2.2.2.1, t0.2.2.2.2.2.2.2.2.1, t0.2.2.2.2.2.2.2.2.2.1, t0.2.2.2.2.2.2.2.2.2.2.1, t0.2.2.2.2.2.2.2.2.2.2.2.1, t0.2.2.2.2.2.2.2.2.2.2.2.2.1, t0.2.2.2.2.2.2.2.2.2.2.2.2.2.1, t0.2.2.2.2.2.2.2.2.2.2.2.2.2.2.1, t0.2.2.2.2.2.2.2.2.2.2.2.2.2.2.2.1, t0.2.2.2.2.2.2.2.2.2.2.2.2.2.2.2.2.1, List.take (wrap64 (Int.ofNat t0.2.2.2.2.2.2.2.2.2.2.2.2.2.2.2.2.2.length - 1)).toNat t0.2.2.2.2.2.2.2.2.2.2.2.2.2.2.2.2.2)) else none))) else none) else none) else none) else none)) else none) else none) else none) else none) else some (Sum.inr (Sum.inl (x.1, x.2.1, x.2.2.1, x.2.2.2.1, x.2.2.2.2.1, x.2.2.2.2.2.1, x.2.2.2.2.2.2.1, x.2.2.2.2.2.2.2.1, x.2.2.2.2.2.2.2.2.1, x.2.2.2.2.2.2.2.2.2.1, x.2.2.2.2.2.2.2.2.2.2.1, x.2.2.2.2.2.2.2.2.2.2.2.1, x.2.2.2.2.2.2.2.2.2.2.2.2.1, x.2.2.2.2.2.2.2.2.2.2.2.2.2.1, x.2.2.2.2.2.2.2.2.2.2.2.2.2.2.1, x.2.2.2.2.2.2.2.2.2.2.2.2.2.2.2.1, x.2.2.2.2.2.2.2.2.2.2.2.2.2.2.2.2.1, x.2.2.2.2.2.2.2.2.2.2.2.2.2.2.2.2.2.1, x.2.2.2.2.2.2.2.2.2.2.2.2.2.2.2.2.2.2.1, x.2.2.2.2.2.2.2.2.2.2.2.2.2.2.2.2.2.2.2.1, x.2.2.2.2.2.2.2.2.2.2.2.2.2.2.2.2.2.2.2.2)))) else some (Sum.inr (Sum.inl (x.1, x.2.1, x.2.2.1, x.2.2.2.1, x.2.2.2.2.1, x.2.2.2.2.2.1, x.2.2.2.2.2.2.1, x.2.2.2.2.2.2.2.1, x.2.2.2.2.2.2.2.2.1, x.2.2.2.2.2.2.2.2.2.1, x.2.2.2.2.2.2.2.2.2.2.1, x.2.2.2.2.2.2.2.2.2.2.2.1, x.2.2.2.2.2.2.2.2.2.2.2.2.1, x.2.2.2.2.2.2.2.2.2.2.2.2.2.1, x.2.2.2.2.2.2.2.2.2.2.2.2.2.2.1, x.2.2.2.2.2.2.2.2.2.2.2.2.2.2.2.1, x.2.2.2.2.2.2.2.2.2.2.2.2.2.2.2.2.1, x.2.2.2.2.2.2.2.2.2.2.2.2.2.2.2.2.2.1, x.2.2.2.2.2.2.2.2.2.2.2.2.2.2.2.2.2.2.1, x.2.2.2.2.2.2.2.2.2.2.2.2.2.2.2.2.2.2.2.1, x.2.2.2.2.2.2.2.2.2.2.2.2.2.2.2.2.2.2.2.2))))
set_option maxRecDepth 100000 in
theorem holdback_Hold_ripe_1.step0_eq (x : holdback_Hold_ripe_1.X0) : (roundT Try.prog (ctOf tab_S4) (ltOf lt_S4) 100000 holdback_Hold_ripe_1.k0 0 holdback_Hold_ripe_1.b0 (holdback_Hold_ripe_1.encX0 x)).strip.opt (leafD holdback_Hold_ripe_1.decX0 holdback_Hold_ripe_1.k0.rets) = holdback_Hold_ripe_1.step0 x := by kernel_rfl
set_option maxRecDepth 100000 in
theorem holdback_Hold_ripe_1.step0_fix (x : holdback_Hold_ripe_1.X0) : (roundT Try.prog (ctOf tab_S4) (ltOf lt_S4) 100000 holdback_Hold_ripe_1.k0 0 holdback_Hold_ripe_1.b0 (holdback_Hold_ripe_1.encX0 x)).fixed = roundT Try.prog (ctOf tab_S4) (ltOf lt_S4) 100000 holdback_Hold_ripe_1.k0 0 holdback_Hold_ripe_1.b0 (holdback_Hold_ripe_1.encX0 x) := by kernel_rfl
noncomputable def holdback_Hold_ripe_1.lt0 : List (Nat × Nat × LC) := (54, 0, holdback_Hold_ripe_1.k0.lc holdback_Hold_ripe_1.step0 holdback_Hold_ripe_1.b0) :: lt_S4
theorem holdback_Hold_ripe_1.lt0_ok : LtOK Try.prog (ltOf holdback_Hold_ripe_1.lt0) := ltOf_cons named mixed tab_S4_ok.ct lt_S4_ok holdback_Hold_ripe_1.k0_ok holdback_Hold_ripe_1.step0_fix holdback_Hold_ripe_1.step0_eq lt_S4_ok
abbrev holdback_Hold_Take.X : Type := Int × Int × Int × Int × Int × Int × Int × Int × Int × Int × Int × Int × Int × Int × Int × Int × Int × (List (Int × Int × Int × (List (Int))))
def holdback_Hold_Take.decX : List AV → Option holdback_Hold_Take.X
  | [y0, y1, y2, y3, y4, y5, y6, y7, y8, y9, y10, y11, y12, y13, y14, y15, y16, y17] => (dI .i64 y0).bind fun n0 => (dI .i64 y1).bind fun n1 => (dI .i64 y2).bind fun n2 => (dI .i64 y3).bind fun n3 => (dI .i64 y4).bind fun n4 => (dI .i64 y5).bind fun n5 => (dI .i64 y6).bind fun n6 => (dI .i64 y7).bind fun n7 => (dI .i64 y8).bind fun n8 => (dI .i64 y9).bind fun n9 => (dI .i64 y10).bind fun n10 => (dI .i64 y11).bind fun n11 => (dI .i64 y12).bind fun n12 => (dI .i64 y13).bind fun n13 => (dI .i64 y14).bind fun n14 => (dI .i64 y15).bind fun n15 => (dI .i64 y16).bind fun n16 => (dL (.pair (.int .i64) (.pair (.int .i64) (.pair (.int .i64) (.sl (.int .u8))))) y17).bind fun n17 => some (n0, n1, n2, n3, n4, n5, n6, n7, n8, n9, n10, n11, n12, n13, n14, n15, n16, n17)
  | _ => none
def holdback_Hold_Take.encX (x : holdback_Hold_Take.X) : List AV := [.int .i64 (.s x.1), .int .i64 (.s x.2.1), .int .i64 (.s x.2.2.1), .int .i64 (.s x.2.2.2.1), .int .i64 (.s x.2.2.2.2.1), .int .i64 (.s x.2.2.2.2.2.1), .int .i64 (.s x.2.2.2.2.2.2.1), .int .i64 (.s x.2.2.2.2.2.2.2.1), .int .i64 (.s x.2.2.2.2.2.2.2.2.1), .int .i64 (.s x.2.2.2.2.2.2.2.2.2.1), .int .i64 (.s x.2.2.2.2.2.2.2.2.2.2.1), .int .i64 (.s x.2.2.2.2.2.2.2.2.2.2.2.1), .int .i64 (.s x.2.2.2.2.2.2.2.2.2.2.2.2.1), .int .i64 (.s x.2.2.2.2.2.2.2.2.2.2.2.2.2.1), .int .i64 (.s x.2.2.2.2.2.2.2.2.2.2.2.2.2.2.1), .int .i64 (.s x.2.2.2.2.2.2.2.2.2.2.2.2.2.2.2.1), .int .i64 (.s x.2.2.2.2.2.2.2.2.2.2.2.2.2.2.2.2.1), .ro (.pair (.int .i64) (.pair (.int .i64) (.pair (.int .i64) (.sl (.int .u8))))) x.2.2.2.2.2.2.2.2.2.2.2.2.2.2.2.2.2]
theorem holdback_Hold_Take.decX_ok (ys : List AV) (x : holdback_Hold_Take.X) (h : holdback_Hold_Take.decX ys = some x) : Ptw ys (holdback_Hold_Take.encX x) := by
  unfold holdback_Hold_Take.decX at h
  split at h
  · obtain ⟨n0, e0, h⟩ := Bq h
    obtain ⟨n1, e1, h⟩ := Bq h
    obtain ⟨n2, e2, h⟩ := Bq h
    obtain ⟨n3, e3, h⟩ := Bq h
    obtain ⟨n4, e4, h⟩ := Bq h
    obtain ⟨n5, e5, h⟩ := Bq h
    obtain ⟨n6, e6, h⟩ := Bq h
    obtain ⟨n7, e7, h⟩ := Bq h
    obtain ⟨n8, e8, h⟩ := Bq h
    obtain ⟨n9, e9, h⟩ := Bq h
    obtain ⟨n10, e10, h⟩ := Bq h
    obtain ⟨n11, e11, h⟩ := Bq h
    obtain ⟨n12, e12, h⟩ := Bq h
    obtain ⟨n13, e13, h⟩ := Bq h
    obtain ⟨n14, e14, h⟩ := Bq h
    obtain ⟨n15, e15, h⟩ := Bq h
    obtain ⟨n16, e16, h⟩ := Bq h
    obtain ⟨n17, e17, h⟩ := Bq h
    cases h
    exact ⟨dI_p e0, ⟨dI_p e1, ⟨dI_p e2, ⟨dI_p e3, ⟨dI_p e4, ⟨dI_p e5, ⟨dI_p e6, ⟨dI_p e7, ⟨dI_p e8, ⟨dI_p e9, ⟨dI_p e10, ⟨dI_p e11, ⟨dI_p e12, ⟨dI_p e13, ⟨dI_p e14, ⟨dI_p e15, ⟨dI_p e16, ⟨dL_ok e17, trivial⟩⟩⟩⟩⟩⟩⟩⟩⟩⟩⟩⟩⟩⟩⟩⟩⟩⟩
  · cases h
abbrev holdback_Hold_Take.Y : Type := Int × Int × Int × Int × Int × Int × Int × Int × Int × Int × Int × Int × Int × Int × Int × Int × (List (Int × Int × Int × (List (Int)))) × (List (Int × Int × Int × (List (Int))))
def holdback_Hold_Take.decY : List AV → Option holdback_Hold_Take.Y
  | [y0, y1, y2, y3, y4, y5, y6, y7, y8, y9, y10, y11, y12, y13, y14, y15, y16, y17] => (dI .i64 y0).bind fun n0 => (dI .i64 y1).bind fun n1 => (dI .i64 y2).bind fun n2 => (dI .i64 y3).bind fun n3 => (dI .i64 y4).bind fun n4 => (dI .i64 y5).bind fun n5 => (dI .i64 y6).bind fun n6 => (dI .i64 y7).bind fun n7 => (dI .i64 y8).bind fun n8 => (dI .i64 y9).bind fun n9 => (dI .i64 y10).bind fun n10 => (dI .i64 y11).bind fun n11 => (dI .i64 y12).bind fun n12 => (dI .i64 y13).bind fun n13 => (dI .i64 y14).bind fun n14 => (dI .i64 y15).bind fun n15 => (dL (.pair (.int .i64) (.pair (.int .i64) (.pair (.int .i64) (.sl (.int .u8))))) y16).bind fun n16 => (dL (.pair (.int .i64) (.pair (.int .i64) (.pair (.int .i64) (.sl (.int .u8))))) y17).bind fun n17 => some (n0, n1, n2, n3, n4, n5, n6, n7, n8, n9, n10, n11, n12, n13, n14, n15, n16, n17)
  | _ => none
def holdback_Hold_Take.encY (x : holdback_Hold_Take.Y) : List AV := [.int .i64 (.s x.1), .int .i64 (.s x.2.1), .int .i64 (.s x.2.2.1), .int .i64 (.s x.2.2.2.1), .int .i64 (.s x.2.2.2.2.1), .int .i64 (.s x.2.2.2.2.2.1), .int .i64 (.s x.2.2.2.2.2.2.1), .int .i64 (.s x.2.2.2.2.2.2.2.1), .int .i64 (.s x.2.2.2.2.2.2.2.2.1), .int .i64 (.s x.2.2.2.2.2.2.2.2.2.1), .int .i64 (.s x.2.2.2.2.2.2.2.2.2.2.1), .int .i64 (.s x.2.2.2.2.2.2.2.2.2.2.2.1), .int .i64 (.s x.2.2.2.2.2.2.2.2.2.2.2.2.1), .int .i64 (.s x.2.2.2.2.2.2.2.2.2.2.2.2.2.1), .int .i64 (.s x.2.2.2.2.2.2.2.2.2.2.2.2.2.2.1), .int .i64 (.s x.2.2.2.2.2.2.2.2.2.2.2.2.2.2.2.1), .ro (.pair (.int .i64) (.pair (.int .i64) (.pair (.int .i64) (.sl (.int .u8))))) x.2.2.2.2.2.2.2.2.2.2.2.2.2.2.2.2.1, .ro (.pair (.int .i64) (.pair (.int .i64) (.pair (.int .i64) (.sl (.int .u8))))) x.2.2.2.2.2.2.2.2.2.2.2.2.2.2.2.2.2]
theorem holdback_Hold_Take.decY_ok (ys : List AV) (x : holdback_Hold_Take.Y) (h : holdback_Hold_Take.decY ys = some x) : Ptw ys (holdback_Hold_Take.encY x) := by
  unfold holdback_Hold_Take.decY at h
  split at h
  · obtain ⟨n0, e0, h⟩ := Bq h
    obtain ⟨n1, e1, h⟩ := Bq h
    obtain ⟨n2, e2, h⟩ := Bq h
    obtain ⟨n3, e3, h⟩ := Bq h
    obtain ⟨n4, e4, h⟩ := Bq h
    obtain ⟨n5, e5, h⟩ := Bq h
    obtain ⟨n6, e6, h⟩ := Bq h
    obtain ⟨n7, e7, h⟩ := Bq h
    obtain ⟨n8, e8, h⟩ := Bq h
    obtain ⟨n9, e9, h⟩ := Bq h
    obtain ⟨n10, e10, h⟩ := Bq h
    obtain ⟨n11, e11, h⟩ := Bq h
    obtain ⟨n12, e12, h⟩ := Bq h
    obtain ⟨n13, e13, h⟩ := Bq h
    obtain ⟨n14, e14, h⟩ := Bq h
    obtain ⟨n15, e15, h⟩ := Bq h
    obtain ⟨n16, e16, h⟩ := Bq h
    obtain ⟨n17, e17, h⟩ := Bq h
    cases h
    exact ⟨dI_p e0, ⟨dI_p e1, ⟨dI_p e2, ⟨dI_p e3, ⟨dI_p e4, ⟨dI_p e5, ⟨dI_p e6, ⟨dI_p e7, ⟨dI_p e8, ⟨dI_p e9, ⟨dI_p e10, ⟨dI_p e11, ⟨dI_p e12, ⟨dI_p e13, ⟨dI_p e14, ⟨dI_p e15, ⟨dL_ok e16, ⟨dL_ok e17, trivial⟩⟩⟩⟩⟩⟩⟩⟩⟩⟩⟩⟩⟩⟩⟩⟩⟩⟩
  · cases h
noncomputable def holdback_Hold_Take.tm : Templ := { keys := [], roots := [.ptr 0 0, .hole], ylds := [], H := [(0, .cells 45 [.hole, .hole, .hole, .hole, .hole, .hole, .hole, .hole, .hole, .hole, .hole, .hole, .hole, .hole, .hole, .hole, .own 1]), (1, .vec 29 (.pair (.int .i64) (.pair (.int .i64) (.pair (.int .i64) (.sl (.int .u8))))) true)], n := 2, stay := [0] }
noncomputable def holdback_Hold_Take.tr : Templ := { keys := [], roots := [.own 2], ylds := [], H := [(0, .cells 45 [.hole, .hole, .hole, .hole, .hole, .hole, .hole, .hole, .hole, .hole, .hole, .hole, .hole, .hole, .hole, .hole, .own 1]), (1, .vec 29 (.pair (.int .i64) (.pair (.int .i64) (.pair (.int .i64) (.sl (.int .u8))))) true), (2, .vec 29 (.pair (.int .i64) (.pair (.int .i64) (.pair (.int .i64) (.sl (.int .u8))))) true)], n := 3, stay := [0] }
noncomputable def holdback_Hold_Take.k : FK holdback_Hold_Take.X holdback_Hold_Take.Y := ⟨holdback_Hold_Take.tm, holdback_Hold_Take.tr, holdback_Hold_Take.decX, holdback_Hold_Take.encX, holdback_Hold_Take.decY, holdback_Hold_Take.encY⟩
theorem holdback_Hold_Take.k_ok : holdback_Hold_Take.k.OK := ⟨holdback_Hold_Take.decX_ok, holdback_Hold_Take.decY_ok, (by show ∀ j ∈ ([0] : List Nat), j < 2; decide)⟩
def holdback_Hold_Take.f (x : holdback_Hold_Take.X) : Option (holdback_Hold_Take.Y) :=
  (if x.2.1 = 0 then some (x.2.1, x.2.2.1, x.2.2.2.1, x.2.2.2.2.1, x.2.2.2.2.2.1, x.2.2.2.2.2.2.1, x.2.2.2.2.2.2.2.1, x.2.2.2.2.2.2.2.2.1, x.2.2.2.2.2.2.2.2.2.1, x.2.2.2.2.2.2.2.2.2.2.1, x.2.2.2.2.2.2.2.2.2.2.2.1, x.2.2.2.2.2.2.2.2.2.2.2.2.1, x.2.2.2.2.2.2.2.2.2.2.2.2.2.1, x.2.2.2.2.2.2.2.2.2.2.2.2.2.2.1, x.2.2.2.2.2.2.2.2.2.2.2.2.2.2.2.1, x.2.2.2.2.2.2.2.2.2.2.2.2.2.2.2.2.1, x.2.2.2.2.2.2.2.2.2.2.2.2.2.2.2.2.2, []) else ((holdback_Hold_Due.f (x.2.1, x.2.2.1, x.2.2.2.1, x.2.2.2.2.1, x.2.2.2.2.2.1, x.2.2.2.2.2.2.1, x.2.2.2.2.2.2.2.1, x.2.2.2.2.2.2.2.2.1, x.2.2.2.2.2.2.2.2.2.1, x.2.2.2.2.2.2.2.2.2.2.1, x.2.2.2.2.2.2.2.2.2.2.2.1, x.2.2.2.2.2.2.2.2.2.2.2.2.1, x.2.2.2.2.2.2.2.2.2.2.2.2.2.1, x.2.2.2.2.2.2.2.2.2.2.2.2.2.2.1, x.2.2.2.2.2.2.2.2.2.2.2.2.2.2.2.1, x.2.2.2.2.2.2.2.2.2.2.2.2.2.2.2.2.1, x.2.2.2.2.2.2.2.2.2.2.2.2.2.2.2.2.2)).bind fun t0 => ((guardEq holdback_Hold_ripe_1.b0.loop holdback_Hold_ripe_1.b0.loop (rounds holdback_Hold_ripe_1.step0 (t0.2.1, t0.1, x.1, [], t0.2.2.1, t0.2.2.2.1, t0.2.2.2.2.1, t0.2.2.2.2.2.1, t0.2.2.2.2.2.2.1, t0.2.2.2.2.2.2.2.1, t0.2.2.2.2.2.2.2.2.1, t0.2.2.2.2.2.2.2.2.2.1, t0.2.2.2.2.2.2.2.2.2.2.1, t0.2.2.2.2.2.2.2.2.2.2.2.1, t0.2.2.2.2.2.2.2.2.2.2.2.2.1, t0.2.2.2.2.2.2.2.2.2.2.2.2.2.1, t0.2.2.2.2.2.2.2.2.2.2.2.2.2.2.1, t0.2.2.2.2.2.2.2.2.2.2.2.2.2.2.2.1, t0.2.2.2.2.2.2.2.2.2.2.2.2.2.2.2.2.1, t0.2.2.2.2.2.2.2.2.2.2.2.2.2.2.2.2.2.1, t0.2.2.2.2.2.2.2.2.2.2.2.2.2.2.2.2.2.2))).bind fun t1 => (match t1 with | .inl x2 => some (x2.2.2.2.2.1, x2.2.2.2.2.2.1, x2.2.2.2.2.2.2.1, x2.2.2.2.2.2.2.2.1, x2.2.2.2.2.2.2.2.2.1, x2.2.2.2.2.2.2.2.2.2.1, x2.2.2.2.2.2.2.2.2.2.2.1, x2.2.2.2.2.2.2.2.2.2.2.2.1, x2.2.2.2.2.2.2.2.2.2.2.2.2.1, x2.2.2.2.2.2.2.2.2.2.2.2.2.2.1, x2.2.2.2.2.2.2.2.2.2.2.2.2.2.2.1, x2.2.2.2.2.2.2.2.2.2.2.2.2.2.2.2.1, x2.2.2.2.2.2.2.2.2.2.2.2.2.2.2.2.2.1, x2.2.2.2.2.2.2.2.2.2.2.2.2.2.2.2.2.2.1, x2.2.2.2.2.2.2.2.2.2.2.2.2.2.2.2.2.2.2.1, x2.2.2.2.2.2.2.2.2.2.2.2.2.2.2.2.2.2.2.2.1, x2.2.2.2.2.2.2.2.2.2.2.2.2.2.2.2.2.2.2.2.2, x2.2.2.2.1) | .inr y2 => none))))
set_option maxRecDepth 100000 in
theorem holdback_Hold_Take.f_eq (x : holdback_Hold_Take.X) : (walk Try.prog (ctOf tab_S4) (ltOf holdback_Hold_ripe_1.lt0) 100000 9 (holdback_Hold_Take.k.tm.vals (holdback_Hold_Take.encX x)) (holdback_Hold_Take.k.tm.heap (holdback_Hold_Take.encX x)) holdback_Hold_Take.k.tm.n).strip.opt holdback_Hold_Take.k.leaf = holdback_Hold_Take.f x := by kernel_rfl
set_option maxRecDepth 100000 in
theorem holdback_Hold_Take.f_fix (x : holdback_Hold_Take.X) : (walk Try.prog (ctOf tab_S4) (ltOf holdback_Hold_ripe_1.lt0) 100000 9 (holdback_Hold_Take.k.tm.vals (holdback_Hold_Take.encX x)) (holdback_Hold_Take.k.tm.heap (holdback_Hold_Take.encX x)) holdback_Hold_Take.k.tm.n).fixed = walk Try.prog (ctOf tab_S4) (ltOf holdback_Hold_ripe_1.lt0) 100000 9 (holdback_Hold_Take.k.tm.vals (holdback_Hold_Take.encX x)) (holdback_Hold_Take.k.tm.heap (holdback_Hold_Take.encX x)) holdback_Hold_Take.k.tm.n := by kernel_rfl
noncomputable def holdback_Hold_Take.c : Entry := markW (holdback_Hold_Take.k.c holdback_Hold_Take.f)
theorem holdback_Hold_Take.ok : EntryOK Try.prog 9 holdback_Hold_Take.c := markW_ok (fk_ok named mixed tab_S4_ok.ct holdback_Hold_ripe_1.lt0_ok holdback_Hold_Take.k_ok holdback_Hold_Take.f_fix holdback_Hold_Take.f_eq)
noncomputable def t_holdback_Hold_Take : List (Nat × Entry) := (9, holdback_Hold_Take.c) :: tab_S4
theorem t_holdback_Hold_Take_ok : TabOK Try.prog t_holdback_Hold_Take := TabOK.cons holdback_Hold_Take.ok tab_S4_ok
noncomputable abbrev tab_S5 : List (Nat × Entry) := t_holdback_Hold_Take
theorem tab_S5_ok : TabOK Try.prog tab_S5 := t_holdback_Hold_Take_ok
noncomputable abbrev lt_S5 : List (Nat × Nat × LC) := holdback_Hold_ripe_1.lt0
theorem lt_S5_ok : LtOK Try.prog (ltOf lt_S5) := holdback_Hold_ripe_1.lt0_ok
end
end Go.Proofs.Ytaoplfmaiclfkaa.S
