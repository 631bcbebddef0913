/- Contracts by the symbolic walk: vespersref24_Same. -/
import Derived.Test.YtaoplfmaiclfkaaProg
import Derived.Test.YtaoplfmaiclfkaaSXo
import Derived.Test.YtaoplfmaiclfkaaS6
namespace Go.Proofs.Ytaoplfmaiclfkaa.S
open Go Go.RowKit Go.Proofs.Ytaoplfmaiclfkaa.SX Go.Proofs
set_option linter.unusedVariables false
noncomputable section
abbrev vespersref24_Same.X0 : Type := Int × (List (Int × Int × Int × (List (Int)))) × (List (Int × Int × Int × (List (Int))))
def vespersref24_Same.decX0 : List AV → Option vespersref24_Same.X0
  | [y0, y1, y2] => (dI .i64 y0).bind fun n0 => (dLst 0 (.pair (.int .i64) (.pair (.int .i64) (.pair (.int .i64) (.sl (.int .u8))))) y1).bind fun n1 => (dLst 1 (.pair (.int .i64) (.pair (.int .i64) (.pair (.int .i64) (.sl (.int .u8))))) y2).bind fun n2 => some (n0, n1, n2)
  | _ => none
def vespersref24_Same.encX0 (x : vespersref24_Same.X0) : List AV := [.int .i64 (.s x.1), .lst 0 (.pair (.int .i64) (.pair (.int .i64) (.pair (.int .i64) (.sl (.int .u8))))) x.2.1 none, .lst 1 (.pair (.int .i64) (.pair (.int .i64) (.pair (.int .i64) (.sl (.int .u8))))) x.2.2 none]
theorem vespersref24_Same.decX0_ok (ys : List AV) (x : vespersref24_Same.X0) (h : vespersref24_Same.decX0 ys = some x) : Ptw ys (vespersref24_Same.encX0 x) := by
  unfold vespersref24_Same.decX0 at h
  split at h
  · obtain ⟨n0, e0, h⟩ := Bq h
    obtain ⟨n1, e1, h⟩ := Bq h
    obtain ⟨n2, e2, h⟩ := Bq h
    cases h
    exact ⟨dI_p e0, ⟨dLst_ok e1, ⟨dLst_ok e2, trivial⟩⟩⟩
  · cases h
abbrev vespersref24_Same.Y0 : Type := Unit
def vespersref24_Same.decY0 : List AV → Option vespersref24_Same.Y0
  | [] => some ()
  | _ => none
def vespersref24_Same.encY0 (x : vespersref24_Same.Y0) : List AV := []
theorem vespersref24_Same.decY0_ok (ys : List AV) (x : vespersref24_Same.Y0) (h : vespersref24_Same.decY0 ys = some x) : Ptw ys (vespersref24_Same.encY0 x) := by
  unfold vespersref24_Same.decY0 at h
  split at h
  · cases h
    exact trivial
  · cases h
noncomputable def vespersref24_Same.tm0 : Templ := { keys := [5, 0, 1], roots := [.hole, .hole, .hole], ylds := [], H := [], n := 0, stay := [] }
noncomputable def vespersref24_Same.tr0 : Templ := { keys := [4], roots := [.bool false], ylds := [], H := [], n := 0, stay := [] }
noncomputable def vespersref24_Same.b0 : Code := loopOf Try.prog 10 0
noncomputable def vespersref24_Same.k0 : LK vespersref24_Same.X0 vespersref24_Same.Y0 := .one 10 (szOf Try.prog 10) false vespersref24_Same.tm0 vespersref24_Same.tr0 vespersref24_Same.decX0 vespersref24_Same.encX0 vespersref24_Same.decY0 vespersref24_Same.encY0
theorem vespersref24_Same.k0_ok : vespersref24_Same.k0.OK := LK.one_ok vespersref24_Same.decX0_ok vespersref24_Same.decY0_ok (by show ∀ j ∈ ([] : List Nat), j < 0; decide) (by show ∀ j ∈ ([] : List Nat), j ∈ ([] : List Nat); decide) rfl
def vespersref24_Same.step0 (x : vespersref24_Same.X0) : Option (vespersref24_Same.X0 ⊕ (vespersref24_Same.X0 ⊕ vespersref24_Same.Y0)) :=
  (if x.1 < Int.ofNat x.2.1.length then (if 0 ≤ x.1 ∧ x.1 < Int.ofNat x.2.1.length then (if 0 ≤ x.1 ∧ x.1 < Int.ofNat x.2.2.length then ((vespersref24_Compare.f ((x.2.1.getD x.1.toNat dMs).1, (x.2.1.getD x.1.toNat dMs).2.1, (x.2.1.getD x.1.toNat dMs).2.2.1, (x.2.1.getD x.1.toNat dMs).2.2.2, (x.2.2.getD x.1.toNat dMs).1, (x.2.2.getD x.1.toNat dMs).2.1, (x.2.2.getD x.1.toNat dMs).2.2.1, (x.2.2.getD x.1.toNat dMs).2.2.2)).bind fun t0 => (if t0 ≠ 0 then some (Sum.inr (Sum.inr ())) else (if 0 ≤ x.1 ∧ x.1 < Int.ofNat x.2.1.length then (if 0 ≤ x.1 ∧ x.1 < Int.ofNat x.2.2.length then (if ¬natsOf (bsOf (x.2.1.getD x.1.toNat dMs).2.2.2) = natsOf (bsOf (x.2.2.getD x.1.toNat dMs).2.2.2) then some (Sum.inr (Sum.inr ())) else some (Sum.inl (wrap64 (x.1 + 1), x.2.1, x.2.2))) else none) else none))) else none) else none) else some (Sum.inr (Sum.inl (x.1, x.2.1, x.2.2))))
set_option maxRecDepth 100000 in
theorem vespersref24_Same.step0_eq (x : vespersref24_Same.X0) : (roundT Try.prog (ctOf tab_S6) (ltOf lt_S6) 100000 vespersref24_Same.k0 0 vespersref24_Same.b0 (vespersref24_Same.encX0 x)).strip.opt (leafD vespersref24_Same.decX0 vespersref24_Same.k0.rets) = vespersref24_Same.step0 x := by kernel_rfl
set_option maxRecDepth 100000 in
theorem vespersref24_Same.step0_fix (x : vespersref24_Same.X0) : (roundT Try.prog (ctOf tab_S6) (ltOf lt_S6) 100000 vespersref24_Same.k0 0 vespersref24_Same.b0 (vespersref24_Same.encX0 x)).fixed = roundT Try.prog (ctOf tab_S6) (ltOf lt_S6) 100000 vespersref24_Same.k0 0 vespersref24_Same.b0 (vespersref24_Same.encX0 x) := by kernel_rfl
noncomputable def vespersref24_Same.lt0 : List (Nat × Nat × LC) := (10, 0, vespersref24_Same.k0.lc vespersref24_Same.step0 vespersref24_Same.b0) :: lt_S6
theorem vespersref24_Same.lt0_ok : LtOK Try.prog (ltOf vespersref24_Same.lt0) := ltOf_cons named mixed tab_S6_ok.ct lt_S6_ok vespersref24_Same.k0_ok vespersref24_Same.step0_fix vespersref24_Same.step0_eq lt_S6_ok
abbrev vespersref24_Same.X : Type := (List (Int × Int × Int × (List (Int)))) × (List (Int × Int × Int × (List (Int))))
def vespersref24_Same.decX : List AV → Option vespersref24_Same.X
  | [y0, y1] => (dLst 0 (.pair (.int .i64) (.pair (.int .i64) (.pair (.int .i64) (.sl (.int .u8))))) y0).bind fun n0 => (dLst 1 (.pair (.int .i64) (.pair (.int .i64) (.pair (.int .i64) (.sl (.int .u8))))) y1).bind fun n1 => some (n0, n1)
  | _ => none
def vespersref24_Same.encX (x : vespersref24_Same.X) : List AV := [.lst 0 (.pair (.int .i64) (.pair (.int .i64) (.pair (.int .i64) (.sl (.int .u8))))) x.1 none, .lst 1 (.pair (.int .i64) (.pair (.int .i64) (.pair (.int .i64) (.sl (.int .u8))))) x.2 none]
theorem vespersref24_Same.decX_ok (ys : List AV) (x : vespersref24_Same.X) (h : vespersref24_Same.decX ys = some x) : Ptw ys (vespersref24_Same.encX x) := by
  unfold vespersref24_Same.decX at h
  split at h
  · obtain ⟨n0, e0, h⟩ := Bq h
    obtain ⟨n1, e1, h⟩ := Bq h
    cases h
    exact ⟨dLst_ok e0, ⟨dLst_ok e1, trivial⟩⟩
  · cases h
noncomputable def vespersref24_Same.k : QK vespersref24_Same.X (Bool) := ⟨[.sl (.pair (.int .i64) (.pair (.int .i64) (.pair (.int .i64) (.sl (.int .u8))))), .sl (.pair (.int .i64) (.pair (.int .i64) (.pair (.int .i64) (.sl (.int .u8)))))], vespersref24_Same.decX, vespersref24_Same.encX, r_bool.dec, r_bool.enc⟩
theorem vespersref24_Same.k_ok : vespersref24_Same.k.OK := ⟨vespersref24_Same.decX_ok, fun v H hn r h => ⟨rfl, fun ρ x hx => by rw [r_bool.ok (H := H) (hn := hn) h hx]; exact r_bool.enc_rel ρ r⟩⟩
def vespersref24_Same.f (x : vespersref24_Same.X) : Option (Bool) :=
  (if Int.ofNat x.1.length ≠ Int.ofNat x.2.length then some false else ((guardEq vespersref24_Same.b0.loop vespersref24_Same.b0.loop (rounds vespersref24_Same.step0 (0, x.1, x.2))).bind fun t0 => (match t0 with | .inl x1 => some true | .inr y1 => some false)))
set_option maxRecDepth 100000 in
theorem vespersref24_Same.f_eq (x : vespersref24_Same.X) : (walk Try.prog (ctOf tab_S6) (ltOf vespersref24_Same.lt0) 100000 10 (vespersref24_Same.encX x) [] 0).strip.opt vespersref24_Same.k.dec = vespersref24_Same.f x := by kernel_rfl
set_option maxRecDepth 100000 in
theorem vespersref24_Same.f_fix (x : vespersref24_Same.X) : (walk Try.prog (ctOf tab_S6) (ltOf vespersref24_Same.lt0) 100000 10 (vespersref24_Same.encX x) [] 0).fixed = walk Try.prog (ctOf tab_S6) (ltOf vespersref24_Same.lt0) 100000 10 (vespersref24_Same.encX x) [] 0 := by kernel_rfl
noncomputable def vespersref24_Same.c : Entry := vespersref24_Same.k.c vespersref24_Same.f
theorem vespersref24_Same.ok : EntryOK Try.prog 10 vespersref24_Same.c := qk_ok named mixed tab_S6_ok.ct vespersref24_Same.lt0_ok vespersref24_Same.k_ok vespersref24_Same.f_fix vespersref24_Same.f_eq
noncomputable def t_vespersref24_Same : List (Nat × Entry) := (10, vespersref24_Same.c) :: tab_S6
theorem t_vespersref24_Same_ok : TabOK Try.prog t_vespersref24_Same := TabOK.cons vespersref24_Same.ok tab_S6_ok
noncomputable abbrev tab_S7 : List (Nat × Entry) := t_vespersref24_Same
theorem tab_S7_ok : TabOK Try.prog tab_S7 := t_vespersref24_Same_ok
noncomputable abbrev lt_S7 : List (Nat × Nat × LC) := vespersref24_Same.lt0
theorem lt_S7_ok : LtOK Try.prog (ltOf lt_S7) := vespersref24_Same.lt0_ok
end
end Go.Proofs.Ytaoplfmaiclfkaa.S
