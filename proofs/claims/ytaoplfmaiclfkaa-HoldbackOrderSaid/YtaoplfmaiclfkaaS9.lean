/- Contracts by the symbolic walk: vesperslaw24_Great. -/
import Derived.Test.YtaoplfmaiclfkaaProg
import Derived.Test.YtaoplfmaiclfkaaSXo
import Derived.Test.YtaoplfmaiclfkaaS8
namespace Go.Proofs.Ytaoplfmaiclfkaa.S
open Go Go.RowKit Go.Proofs.Ytaoplfmaiclfkaa.SX Go.Proofs
set_option linter.unusedVariables false
noncomputable section
abbrev vesperslaw24_Great.X0 : Type := Int × Int × (List (Int × (Int × Int × Int × (List (Int))) × Int))
def vesperslaw24_Great.decX0 : List AV → Option vesperslaw24_Great.X0
  | [y0, y1, y2] => (dI .i64 y0).bind fun n0 => (dI .i64 y1).bind fun n1 => (dLst 0 (.pair (.int .i64) (.pair (.pair (.int .i64) (.pair (.int .i64) (.pair (.int .i64) (.sl (.int .u8))))) (.int .i64))) y2).bind fun n2 => some (n0, n1, n2)
  | _ => none
def vesperslaw24_Great.encX0 (x : vesperslaw24_Great.X0) : List AV := [.int .i64 (.s x.1), .int .i64 (.s x.2.1), .lst 0 (.pair (.int .i64) (.pair (.pair (.int .i64) (.pair (.int .i64) (.pair (.int .i64) (.sl (.int .u8))))) (.int .i64))) x.2.2 none]
theorem vesperslaw24_Great.decX0_ok (ys : List AV) (x : vesperslaw24_Great.X0) (h : vesperslaw24_Great.decX0 ys = some x) : Ptw ys (vesperslaw24_Great.encX0 x) := by
  unfold vesperslaw24_Great.decX0 at h
  split at h
  · obtain ⟨n0, e0, h⟩ := Bq h
    obtain ⟨n1, e1, h⟩ := Bq h
    obtain ⟨n2, e2, h⟩ := Bq h
    cases h
    exact ⟨dI_p e0, ⟨dI_p e1, ⟨dLst_ok e2, trivial⟩⟩⟩
  · cases h
abbrev vesperslaw24_Great.Y0 : Type := Unit
def vesperslaw24_Great.decY0 : List AV → Option vesperslaw24_Great.Y0
  | [] => some ()
  | _ => none
def vesperslaw24_Great.encY0 (x : vesperslaw24_Great.Y0) : List AV := []
theorem vesperslaw24_Great.decY0_ok (ys : List AV) (x : vesperslaw24_Great.Y0) (h : vesperslaw24_Great.decY0 ys = some x) : Ptw ys (vesperslaw24_Great.encY0 x) := by
  unfold vesperslaw24_Great.decY0 at h
  split at h
  · cases h
    exact trivial
  · cases h
noncomputable def vesperslaw24_Great.tm0 : Templ := { keys := [9, 8, 0], roots := [.hole, .hole, .hole], ylds := [], H := [], n := 0, stay := [] }
noncomputable def vesperslaw24_Great.tr0 : Templ := { keys := [2], roots := [.int .i64 1], ylds := [], H := [], n := 0, stay := [] }
noncomputable def vesperslaw24_Great.b0 : Code := loopOf Try.prog 21 0
noncomputable def vesperslaw24_Great.k0 : LK vesperslaw24_Great.X0 vesperslaw24_Great.Y0 := .one 21 (szOf Try.prog 21) false vesperslaw24_Great.tm0 vesperslaw24_Great.tr0 vesperslaw24_Great.decX0 vesperslaw24_Great.encX0 vesperslaw24_Great.decY0 vesperslaw24_Great.encY0
theorem vesperslaw24_Great.k0_ok : vesperslaw24_Great.k0.OK := LK.one_ok vesperslaw24_Great.decX0_ok vesperslaw24_Great.decY0_ok (by show ∀ j ∈ ([] : List Nat), j < 0; decide) (by show ∀ j ∈ ([] : List Nat), j ∈ ([] : List Nat); decide) rfl
def vesperslaw24_Great.step0 (x : vesperslaw24_Great.X0) : Option (vesperslaw24_Great.X0 ⊕ (vesperslaw24_Great.X0 ⊕ vesperslaw24_Great.Y0)) :=
  (if x.1 < x.2.1 then (if 0 ≤ x.1 ∧ x.1 < Int.ofNat x.2.2.length then (if Int.ofNat (List.length (x.2.2.getD x.1.toNat dOp).2.1.2.2.2) > 100 then some (Sum.inr (Sum.inr ())) else some (Sum.inl (wrap64 (x.1 + 1), x.2.1, x.2.2))) else none) else some (Sum.inr (Sum.inl (x.1, x.2.1, x.2.2))))
set_option maxRecDepth 100000 in
theorem vesperslaw24_Great.step0_eq (x : vesperslaw24_Great.X0) : (roundT Try.prog (ctOf tab_S8) (ltOf lt_S8) 100000 vesperslaw24_Great.k0 0 vesperslaw24_Great.b0 (vesperslaw24_Great.encX0 x)).strip.opt (leafD vesperslaw24_Great.decX0 vesperslaw24_Great.k0.rets) = vesperslaw24_Great.step0 x := by kernel_rfl
set_option maxRecDepth 100000 in
theorem vesperslaw24_Great.step0_fix (x : vesperslaw24_Great.X0) : (roundT Try.prog (ctOf tab_S8) (ltOf lt_S8) 100000 vesperslaw24_Great.k0 0 vesperslaw24_Great.b0 (vesperslaw24_Great.encX0 x)).fixed = roundT Try.prog (ctOf tab_S8) (ltOf lt_S8) 100000 vesperslaw24_Great.k0 0 vesperslaw24_Great.b0 (vesperslaw24_Great.encX0 x) := by kernel_rfl
noncomputable def vesperslaw24_Great.lt0 : List (Nat × Nat × LC) := (21, 0, vesperslaw24_Great.k0.lc vesperslaw24_Great.step0 vesperslaw24_Great.b0) :: lt_S8
theorem vesperslaw24_Great.lt0_ok : LtOK Try.prog (ltOf vesperslaw24_Great.lt0) := ltOf_cons named mixed tab_S8_ok.ct lt_S8_ok vesperslaw24_Great.k0_ok vesperslaw24_Great.step0_fix vesperslaw24_Great.step0_eq lt_S8_ok
abbrev vesperslaw24_Great.X : Type := (List (Int × (Int × Int × Int × (List (Int))) × Int))
def vesperslaw24_Great.decX : List AV → Option vesperslaw24_Great.X
  | [y0] => (dLst 0 (.pair (.int .i64) (.pair (.pair (.int .i64) (.pair (.int .i64) (.pair (.int .i64) (.sl (.int .u8))))) (.int .i64))) y0).bind fun n0 => some (n0)
  | _ => none
def vesperslaw24_Great.encX (x : vesperslaw24_Great.X) : List AV := [.lst 0 (.pair (.int .i64) (.pair (.pair (.int .i64) (.pair (.int .i64) (.pair (.int .i64) (.sl (.int .u8))))) (.int .i64))) x none]
theorem vesperslaw24_Great.decX_ok (ys : List AV) (x : vesperslaw24_Great.X) (h : vesperslaw24_Great.decX ys = some x) : Ptw ys (vesperslaw24_Great.encX x) := by
  unfold vesperslaw24_Great.decX at h
  split at h
  · obtain ⟨n0, e0, h⟩ := Bq h
    cases h
    exact ⟨dLst_ok e0, trivial⟩
  · cases h
noncomputable def vesperslaw24_Great.k : QK vesperslaw24_Great.X (Int) := ⟨[.sl (.pair (.int .i64) (.pair (.pair (.int .i64) (.pair (.int .i64) (.pair (.int .i64) (.sl (.int .u8))))) (.int .i64)))], vesperslaw24_Great.decX, vesperslaw24_Great.encX, r_i64.dec, r_i64.enc⟩
theorem vesperslaw24_Great.k_ok : vesperslaw24_Great.k.OK := ⟨vesperslaw24_Great.decX_ok, fun v H hn r h => ⟨rfl, fun ρ x hx => by rw [r_i64.ok (H := H) (hn := hn) h hx]; exact r_i64.enc_rel ρ r⟩⟩
def vesperslaw24_Great.f (x : vesperslaw24_Great.X) : Option (Int) :=
  (if Int.ofNat (List.length x) > 60 then some 1 else ((guardEq vesperslaw24_Great.b0.loop vesperslaw24_Great.b0.loop (rounds vesperslaw24_Great.step0 (0, Int.ofNat (List.length x), x))).bind fun t0 => (match t0 with | .inl x1 => some 0 | .inr y1 => some 1)))
set_option maxRecDepth 100000 in
theorem vesperslaw24_Great.f_eq (x : vesperslaw24_Great.X) : (walk Try.prog (ctOf tab_S8) (ltOf vesperslaw24_Great.lt0) 100000 21 (vesperslaw24_Great.encX x) [] 0).strip.opt vesperslaw24_Great.k.dec = vesperslaw24_Great.f x := by kernel_rfl
set_option maxRecDepth 100000 in
theorem vesperslaw24_Great.f_fix (x : vesperslaw24_Great.X) : (walk Try.prog (ctOf tab_S8) (ltOf vesperslaw24_Great.lt0) 100000 21 (vesperslaw24_Great.encX x) [] 0).fixed = walk Try.prog (ctOf tab_S8) (ltOf vesperslaw24_Great.lt0) 100000 21 (vesperslaw24_Great.encX x) [] 0 := by kernel_rfl
noncomputable def vesperslaw24_Great.c : Entry := vesperslaw24_Great.k.c vesperslaw24_Great.f
theorem vesperslaw24_Great.ok : EntryOK Try.prog 21 vesperslaw24_Great.c := qk_ok named mixed tab_S8_ok.ct vesperslaw24_Great.lt0_ok vesperslaw24_Great.k_ok vesperslaw24_Great.f_fix vesperslaw24_Great.f_eq
noncomputable def t_vesperslaw24_Great : List (Nat × Entry) := (21, vesperslaw24_Great.c) :: tab_S8
theorem t_vesperslaw24_Great_ok : TabOK Try.prog t_vesperslaw24_Great := TabOK.cons vesperslaw24_Great.ok tab_S8_ok
noncomputable abbrev tab_S9 : List (Nat × Entry) := t_vesperslaw24_Great
theorem tab_S9_ok : TabOK Try.prog tab_S9 := t_vesperslaw24_Great_ok
noncomputable abbrev lt_S9 : List (Nat × Nat × LC) := vesperslaw24_Great.lt0
theorem lt_S9_ok : LtOK Try.prog (ltOf lt_S9) := vesperslaw24_Great.lt0_ok
end
end Go.Proofs.Ytaoplfmaiclfkaa.S
