/- Contracts by the symbolic walk: vespersref09_Of, vespersref16_Judge, vespersref16_Place, vesperslaw16_some, vesperslaw16_judged, vesperslaw16_alive. -/
import Derived.Test.YtlekjgjhbanimaaProg
import Derived.Test.YtlekjgjhbanimaaSXo
import Derived.Test.YtlekjgjhbanimaaS1
namespace Go.Proofs.Ytlekjgjhbanimaa.S
open Go Go.RowKit Go.Proofs.Ytlekjgjhbanimaa.SX Go.Proofs
set_option linter.unusedVariables false
noncomputable section
abbrev vespersref09_Of.X0 : Type := Int × Int × Int × Int × Int × Int × Int × Int × Int × Int × Int × Int × Int × Int × Int × Int × Int × Int × Int
def vespersref09_Of.decX0 : List AV → Option vespersref09_Of.X0
  | [y0, y1, y2, y3, y4, y5, y6, y7, y8, y9, y10, y11, y12, y13, y14, y15, y16, y17, y18] => (dI .i64 y0).bind fun n0 => (dI .i64 y1).bind fun n1 => (dI .i64 y2).bind fun n2 => (dI .i64 y3).bind fun n3 => (dI .i64 y4).bind fun n4 => (dI .i64 y5).bind fun n5 => (dI .i64 y6).bind fun n6 => (dI .i64 y7).bind fun n7 => (dI .i64 y8).bind fun n8 => (dI .i64 y9).bind fun n9 => (dI .i64 y10).bind fun n10 => (dI .i64 y11).bind fun n11 => (dI .i64 y12).bind fun n12 => (dI .i64 y13).bind fun n13 => (dI .i64 y14).bind fun n14 => (dI .i64 y15).bind fun n15 => (dI .i64 y16).bind fun n16 => (dI .i64 y17).bind fun n17 => (dI .i64 y18).bind fun n18 => some (n0, n1, n2, n3, n4, n5, n6, n7, n8, n9, n10, n11, n12, n13, n14, n15, n16, n17, n18)
  | _ => none
def vespersref09_Of.encX0 (x : vespersref09_Of.X0) : List AV := [.int .i64 (.s x.1), .int .i64 (.s x.2.1), .int .i64 (.s x.2.2.1), .int .i64 (.s x.2.2.2.1), .int .i64 (.s x.2.2.2.2.1), .int .i64 (.s x.2.2.2.2.2.1), .int .i64 (.s x.2.2.2.2.2.2.1), .int .i64 (.s x.2.2.2.2.2.2.2.1), .int .i64 (.s x.2.2.2.2.2.2.2.2.1), .int .i64 (.s x.2.2.2.2.2.2.2.2.2.1), .int .i64 (.s x.2.2.2.2.2.2.2.2.2.2.1), .int .i64 (.s x.2.2.2.2.2.2.2.2.2.2.2.1), .int .i64 (.s x.2.2.2.2.2.2.2.2.2.2.2.2.1), .int .i64 (.s x.2.2.2.2.2.2.2.2.2.2.2.2.2.1), .int .i64 (.s x.2.2.2.2.2.2.2.2.2.2.2.2.2.2.1), .int .i64 (.s x.2.2.2.2.2.2.2.2.2.2.2.2.2.2.2.1), .int .i64 (.s x.2.2.2.2.2.2.2.2.2.2.2.2.2.2.2.2.1), .int .i64 (.s x.2.2.2.2.2.2.2.2.2.2.2.2.2.2.2.2.2.1), .int .i64 (.s x.2.2.2.2.2.2.2.2.2.2.2.2.2.2.2.2.2.2)]
theorem vespersref09_Of.decX0_ok (ys : List AV) (x : vespersref09_Of.X0) (h : vespersref09_Of.decX0 ys = some x) : Ptw ys (vespersref09_Of.encX0 x) := by
  unfold vespersref09_Of.decX0 at h
  split at h
  · obtain ⟨n0, e0, h⟩ := Option.bind_eq_some_iff.1 h
    obtain ⟨n1, e1, h⟩ := Option.bind_eq_some_iff.1 h
    obtain ⟨n2, e2, h⟩ := Option.bind_eq_some_iff.1 h
    obtain ⟨n3, e3, h⟩ := Option.bind_eq_some_iff.1 h
    obtain ⟨n4, e4, h⟩ := Option.bind_eq_some_iff.1 h
    obtain ⟨n5, e5, h⟩ := Option.bind_eq_some_iff.1 h
    obtain ⟨n6, e6, h⟩ := Option.bind_eq_some_iff.1 h
    obtain ⟨n7, e7, h⟩ := Option.bind_eq_some_iff.1 h
    obtain ⟨n8, e8, h⟩ := Option.bind_eq_some_iff.1 h
    obtain ⟨n9, e9, h⟩ := Option.bind_eq_some_iff.1 h
    obtain ⟨n10, e10, h⟩ := Option.bind_eq_some_iff.1 h
    obtain ⟨n11, e11, h⟩ := Option.bind_eq_some_iff.1 h
    obtain ⟨n12, e12, h⟩ := Option.bind_eq_some_iff.1 h
    obtain ⟨n13, e13, h⟩ := Option.bind_eq_some_iff.1 h
    obtain ⟨n14, e14, h⟩ := Option.bind_eq_some_iff.1 h
    obtain ⟨n15, e15, h⟩ := Option.bind_eq_some_iff.1 h
    obtain ⟨n16, e16, h⟩ := Option.bind_eq_some_iff.1 h
    obtain ⟨n17, e17, h⟩ := Option.bind_eq_some_iff.1 h
    obtain ⟨n18, e18, h⟩ := Option.bind_eq_some_iff.1 h
    cases h
    exact ⟨dI_p e0, ⟨dI_p e1, ⟨dI_p e2, ⟨dI_p e3, ⟨dI_p e4, ⟨dI_p e5, ⟨dI_p e6, ⟨dI_p e7, ⟨dI_p e8, ⟨dI_p e9, ⟨dI_p e10, ⟨dI_p e11, ⟨dI_p e12, ⟨dI_p e13, ⟨dI_p e14, ⟨dI_p e15, ⟨dI_p e16, ⟨dI_p e17, ⟨dI_p e18, trivial⟩⟩⟩⟩⟩⟩⟩⟩⟩⟩⟩⟩⟩⟩⟩⟩⟩⟩⟩
  · cases h
abbrev vespersref09_Of.Y0 : Type := Unit
def vespersref09_Of.decY0 : List AV → Option vespersref09_Of.Y0
  | [] => some ()
  | _ => none
def vespersref09_Of.encY0 (x : vespersref09_Of.Y0) : List AV := []
theorem vespersref09_Of.decY0_ok (ys : List AV) (x : vespersref09_Of.Y0) (h : vespersref09_Of.decY0 ys = some x) : Ptw ys (vespersref09_Of.encY0 x) := by
  unfold vespersref09_Of.decY0 at h
  split at h
  · cases h
    exact trivial
  · cases h
noncomputable def vespersref09_Of.tm0 : Templ := { keys := [2, 4, 5, 7, 8], roots := [.ptr 0 0, .ptr 1 0, .int .i64 0, .ptr 2 0, .hole], ylds := [], H := [(0, .cells 23 [.hole, .hole, .hole, .hole, .hole, .hole, .hole, .hole, .hole, .hole, .hole, .hole, .hole, .hole, .hole, .hole]), (1, .cells 25 [.int .i64 0, .int .i64 0]), (2, .cells 25 [.hole, .hole])], n := 3, stay := [0, 1, 2] }
noncomputable def vespersref09_Of.tr0 : Templ := { keys := [], roots := [], ylds := [], H := [], n := 3, stay := [0, 1, 2] }
noncomputable def vespersref09_Of.b0 : Code := loopOf Try.prog 34 0
noncomputable def vespersref09_Of.k0 : LK vespersref09_Of.X0 vespersref09_Of.Y0 := ⟨34, szOf Try.prog 34, false, vespersref09_Of.tm0, vespersref09_Of.tr0, vespersref09_Of.decX0, vespersref09_Of.encX0, vespersref09_Of.decY0, vespersref09_Of.encY0⟩
theorem vespersref09_Of.k0_ok : vespersref09_Of.k0.OK := ⟨vespersref09_Of.decX0_ok, vespersref09_Of.decY0_ok, (by show ∀ j ∈ [0, 1, 2], j < 3; decide), (by show ∀ j ∈ ([] : List Nat), j ∈ ([0, 1, 2] : List Nat); decide), rfl⟩
def vespersref09_Of.step0 (x : vespersref09_Of.X0) : Option (vespersref09_Of.X0 ⊕ (vespersref09_Of.X0 ⊕ vespersref09_Of.Y0)) :=
  (if x.fst ≥ x.snd.snd.snd.fst then some (Sum.inl (wrap64 (x.fst - x.snd.snd.snd.fst), x.snd.fst, x.snd.snd.fst, x.snd.snd.snd.fst, x.snd.snd.snd.snd.fst, x.snd.snd.snd.snd.snd.fst, x.snd.snd.snd.snd.snd.snd.fst, x.snd.snd.snd.snd.snd.snd.snd.fst, x.snd.snd.snd.snd.snd.snd.snd.snd.fst, x.snd.snd.snd.snd.snd.snd.snd.snd.snd.fst, x.snd.snd.snd.snd.snd.snd.snd.snd.snd.snd.fst, x.snd.snd.snd.snd.snd.snd.snd.snd.snd.snd.snd.fst, x.snd.snd.snd.snd.snd.snd.snd.snd.snd.snd.snd.snd.fst, x.snd.snd.snd.snd.snd.snd.snd.snd.snd.snd.snd.snd.snd.fst, x.snd.snd.snd.snd.snd.snd.snd.snd.snd.snd.snd.snd.snd.snd.fst, x.snd.snd.snd.snd.snd.snd.snd.snd.snd.snd.snd.snd.snd.snd.snd.fst, x.snd.snd.snd.snd.snd.snd.snd.snd.snd.snd.snd.snd.snd.snd.snd.snd.fst, x.snd.snd.snd.snd.snd.snd.snd.snd.snd.snd.snd.snd.snd.snd.snd.snd.snd.fst, wrap64 (x.snd.snd.snd.snd.snd.snd.snd.snd.snd.snd.snd.snd.snd.snd.snd.snd.snd.snd + 1))) else some (Sum.inr (Sum.inl (x.fst, x.snd.fst, x.snd.snd.fst, x.snd.snd.snd.fst, x.snd.snd.snd.snd.fst, x.snd.snd.snd.snd.snd.fst, x.snd.snd.snd.snd.snd.snd.fst, x.snd.snd.snd.snd.snd.snd.snd.fst, x.snd.snd.snd.snd.snd.snd.snd.snd.fst, x.snd.snd.snd.snd.snd.snd.snd.snd.snd.fst, x.snd.snd.snd.snd.snd.snd.snd.snd.snd.snd.fst, x.snd.snd.snd.snd.snd.snd.snd.snd.snd.snd.snd.fst, x.snd.snd.snd.snd.snd.snd.snd.snd.snd.snd.snd.snd.fst, x.snd.snd.snd.snd.snd.snd.snd.snd.snd.snd.snd.snd.snd.fst, x.snd.snd.snd.snd.snd.snd.snd.snd.snd.snd.snd.snd.snd.snd.fst, x.snd.snd.snd.snd.snd.snd.snd.snd.snd.snd.snd.snd.snd.snd.snd.fst, x.snd.snd.snd.snd.snd.snd.snd.snd.snd.snd.snd.snd.snd.snd.snd.snd.fst, x.snd.snd.snd.snd.snd.snd.snd.snd.snd.snd.snd.snd.snd.snd.snd.snd.snd.fst, x.snd.snd.snd.snd.snd.snd.snd.snd.snd.snd.snd.snd.snd.snd.snd.snd.snd.snd))))
set_option maxRecDepth 100000 in
theorem vespersref09_Of.step0_eq (x : vespersref09_Of.X0) : (roundT Try.prog (ctOf tab_S1) noL 100000 vespersref09_Of.k0 0 vespersref09_Of.b0 (vespersref09_Of.encX0 x)).strip.opt (leafD vespersref09_Of.decX0 vespersref09_Of.decY0) = vespersref09_Of.step0 x := by kernel_rfl
set_option maxRecDepth 100000 in
theorem vespersref09_Of.step0_fix (x : vespersref09_Of.X0) : (roundT Try.prog (ctOf tab_S1) noL 100000 vespersref09_Of.k0 0 vespersref09_Of.b0 (vespersref09_Of.encX0 x)).fixed = roundT Try.prog (ctOf tab_S1) noL 100000 vespersref09_Of.k0 0 vespersref09_Of.b0 (vespersref09_Of.encX0 x) := by kernel_rfl
noncomputable def vespersref09_Of.lt0 : List (Nat × Nat × LC) := (34, 0, vespersref09_Of.k0.lc vespersref09_Of.step0 vespersref09_Of.b0) :: []
theorem vespersref09_Of.lt0_ok : LtOK Try.prog (ltOf vespersref09_Of.lt0) := ltOf_cons named mixed tab_S1_ok.ct noL_ok vespersref09_Of.k0_ok vespersref09_Of.step0_fix vespersref09_Of.step0_eq ltOf_nil
def vespersref09_Of.f (a0_0 : Int) (a0_1 : Int) (a0_2 : Int) (a0_3 : Int) (a0_4 : Int) (a0_5 : Int) (a0_6 : Int) (a0_7 : Int) (a0_8 : Int) (a0_9 : Int) (a0_10 : Int) (a0_11 : Int) (a0_12 : Int) (a0_13 : Int) (a0_14 : Int) (a0_15 : Int) (a1 : Int) : Option (Int × Int × Int) :=
  ((vespersref07_Round.f a0_0 a0_1 a0_2 a0_3 a0_4 a0_5 a0_6 a0_7 a0_8 a0_9 a0_10 a0_11 a0_12 a0_13 a0_14 a0_15).bind fun t0 => ((vespersref07_Check.f a0_0 a0_1 a0_2 a0_3 a0_4 a0_5 a0_6 a0_7 a0_8 a0_9 a0_10 a0_11 a0_12 a0_13 a0_14 a0_15).bind fun t1 => (if t1 ≠ 0 then some (0, 0, 90) else (if a1 < 0 then some (0, 0, 90) else (if a1 > wrap64 (2147483647 * t0) then some (0, 0, 90) else (if t0 = 0 then none else (if t0 = 0 then none else ((guardEq vespersref09_Of.b0.loop vespersref09_Of.b0.loop (rounds vespersref09_Of.step0 (a1.tmod t0, a0_0, a0_1, a0_2, a0_3, a0_4, a0_5, a0_6, a0_7, a0_8, a0_9, a0_10, a0_11, a0_12, a0_13, a0_14, a0_15, wrap64 (a1.tdiv t0), 0))).bind fun t2 => (match t2 with | .inl x3 => some (x3.snd.snd.snd.snd.snd.snd.snd.snd.snd.snd.snd.snd.snd.snd.snd.snd.snd.fst, x3.snd.snd.snd.snd.snd.snd.snd.snd.snd.snd.snd.snd.snd.snd.snd.snd.snd.snd, 0) | .inr y3 => none)))))))))
set_option maxRecDepth 100000 in
theorem vespersref09_Of.calls (a0_0 : Int) (a0_1 : Int) (a0_2 : Int) (a0_3 : Int) (a0_4 : Int) (a0_5 : Int) (a0_6 : Int) (a0_7 : Int) (a0_8 : Int) (a0_9 : Int) (a0_10 : Int) (a0_11 : Int) (a0_12 : Int) (a0_13 : Int) (a0_14 : Int) (a0_15 : Int) (a1 : Int) (r1 : Int) (r2 : Int) (r3 : Int) (w : World) (h : vespersref09_Of.f a0_0 a0_1 a0_2 a0_3 a0_4 a0_5 a0_6 a0_7 a0_8 a0_9 a0_10 a0_11 a0_12 a0_13 a0_14 a0_15 a1 = some (r1, r2, r3)) :
    Calls Try.prog 34 #[.agg #[.int .i64 a0_0, .int .i64 a0_1, .int .i64 a0_2, .int .i64 a0_3, .int .i64 a0_4, .int .i64 a0_5, .int .i64 a0_6, .int .i64 a0_7, .int .i64 a0_8, .int .i64 a0_9, .int .i64 a0_10, .int .i64 a0_11, .int .i64 a0_12, .int .i64 a0_13, .int .i64 a0_14, .int .i64 a0_15], .int .i64 a1] w fun e w' => e = .returned (.tuple #[.agg #[.int .i64 r1, .int .i64 r2], .int .i64 r3]) ∧ Below w.heap.size w w' := by
  have ht : (walk Try.prog (ctOf tab_S1) (ltOf vespersref09_Of.lt0) 100000 34 [.agg [.int .i64 (.s a0_0), .int .i64 (.s a0_1), .int .i64 (.s a0_2), .int .i64 (.s a0_3), .int .i64 (.s a0_4), .int .i64 (.s a0_5), .int .i64 (.s a0_6), .int .i64 (.s a0_7), .int .i64 (.s a0_8), .int .i64 (.s a0_9), .int .i64 (.s a0_10), .int .i64 (.s a0_11), .int .i64 (.s a0_12), .int .i64 (.s a0_13), .int .i64 (.s a0_14), .int .i64 (.s a0_15)], .int .i64 (.s a1)] [] 0).opt r_i64x2_i64.dec = vespersref09_Of.f a0_0 a0_1 a0_2 a0_3 a0_4 a0_5 a0_6 a0_7 a0_8 a0_9 a0_10 a0_11 a0_12 a0_13 a0_14 a0_15 a1 := by kernel_rfl
  exact calls_of named mixed tab_S1_ok.ct vespersref09_Of.lt0_ok ht h (by kernel_rfl) (by kernel_rfl) w fun _ _ _ _ _ hd hx => r_i64x2_i64.ok hd hx
noncomputable def vespersref09_Of.c : Entry := fun args _ _ => g_i64x16 args fun a0_0 a0_1 a0_2 a0_3 a0_4 a0_5 a0_6 a0_7 a0_8 a0_9 a0_10 a0_11 a0_12 a0_13 a0_14 a0_15 args => aI .i64 args fun a1 args => aN args (some { o := vespersref09_Of.f a0_0 a0_1 a0_2 a0_3 a0_4 a0_5 a0_6 a0_7 a0_8 a0_9 a0_10 a0_11 a0_12 a0_13 a0_14 a0_15 a1, enc := r_i64x2_i64.enc })
theorem vespersref09_Of.ok : EntryOK Try.prog 34 vespersref09_Of.c := by
  intro args H hn c h _ r hr ρ w xs hx hrel
  unfold vespersref09_Of.c at h
  obtain ⟨a0_0, a0_1, a0_2, a0_3, a0_4, a0_5, a0_6, a0_7, a0_8, a0_9, a0_10, a0_11, a0_12, a0_13, a0_14, a0_15, xs, args, rfl, hx, h⟩ := g_i64x16_ok h hx
  obtain ⟨a1, xs, args, rfl, hx, h⟩ := aI_ok h hx
  obtain ⟨rfl, h⟩ := aN_ok h hx
  cases h
  obtain ⟨r1, r2, r3⟩ := r
  refine (vespersref09_Of.calls a0_0 a0_1 a0_2 a0_3 a0_4 a0_5 a0_6 a0_7 a0_8 a0_9 a0_10 a0_11 a0_12 a0_13 a0_14 a0_15 a1 r1 r2 r3 w hr).mono ?_
  rintro e w' ⟨rfl, hb⟩
  exact ⟨_, ρ, rfl, r_i64x2_i64.enc_rel ρ (r1, r2, r3), ⟨rfl, hrel.below hb⟩, Eff.of_below hb⟩
noncomputable def t_vespersref09_Of : List (Nat × Entry) := (34, vespersref09_Of.c) :: tab_S1
theorem t_vespersref09_Of_ok : TabOK Try.prog t_vespersref09_Of := TabOK.cons vespersref09_Of.ok tab_S1_ok
def vespersref16_Judge.f (a0_0 : Int) (a0_1 : Int) (a0_2 : Int) (a0_3 : Int) (a0_4 : Int) (a0_5 : Int) (a0_6 : Int) (a0_7 : Int) (a0_8 : Int) (a0_9 : Int) (a0_10 : Int) (a0_11 : Int) (a0_12 : Int) (a0_13 : Int) (a0_14 : Int) (a0_15 : Int) (a1_0 : Int) (a1_1 : Int) (a2 : Int) : Option (Int × Int × Int) :=
  ((vespersref09_Expected.f a0_0 a0_1 a0_2 a0_3 a0_4 a0_5 a0_6 a0_7 a0_8 a0_9 a0_10 a0_11 a0_12 a0_13 a0_14 a0_15 a1_0 a1_1).bind fun t0 => (if t0.snd.snd.snd ≠ 0 then some (0, 0, 160) else (if a2 < -4294967296 then some (0, 0, 160) else (if a2 > 1152921504606846976 then some (0, 0, 160) else (if wrap64 (a2 - t0.fst) < wrap64 (0 - a0_4) then some (1, wrap64 (a2 - t0.fst), 0) else (if wrap64 (a2 - t0.fst) > a0_4 then some (3, wrap64 (a2 - t0.fst), 0) else some (2, wrap64 (a2 - t0.fst), 0)))))))
set_option maxRecDepth 100000 in
theorem vespersref16_Judge.calls (a0_0 : Int) (a0_1 : Int) (a0_2 : Int) (a0_3 : Int) (a0_4 : Int) (a0_5 : Int) (a0_6 : Int) (a0_7 : Int) (a0_8 : Int) (a0_9 : Int) (a0_10 : Int) (a0_11 : Int) (a0_12 : Int) (a0_13 : Int) (a0_14 : Int) (a0_15 : Int) (a1_0 : Int) (a1_1 : Int) (a2 : Int) (r1 : Int) (r2 : Int) (r3 : Int) (w : World) (h : vespersref16_Judge.f a0_0 a0_1 a0_2 a0_3 a0_4 a0_5 a0_6 a0_7 a0_8 a0_9 a0_10 a0_11 a0_12 a0_13 a0_14 a0_15 a1_0 a1_1 a2 = some (r1, r2, r3)) :
    Calls Try.prog 16 #[.agg #[.int .i64 a0_0, .int .i64 a0_1, .int .i64 a0_2, .int .i64 a0_3, .int .i64 a0_4, .int .i64 a0_5, .int .i64 a0_6, .int .i64 a0_7, .int .i64 a0_8, .int .i64 a0_9, .int .i64 a0_10, .int .i64 a0_11, .int .i64 a0_12, .int .i64 a0_13, .int .i64 a0_14, .int .i64 a0_15], .agg #[.int .i64 a1_0, .int .i64 a1_1], .int .i64 a2] w fun e w' => e = .returned (.tuple #[.int .i64 r1, .int .i64 r2, .int .i64 r3]) ∧ Below w.heap.size w w' := by
  have ht : (walk Try.prog (ctOf t_vespersref09_Of) (ltOf vespersref09_Of.lt0) 100000 16 [.agg [.int .i64 (.s a0_0), .int .i64 (.s a0_1), .int .i64 (.s a0_2), .int .i64 (.s a0_3), .int .i64 (.s a0_4), .int .i64 (.s a0_5), .int .i64 (.s a0_6), .int .i64 (.s a0_7), .int .i64 (.s a0_8), .int .i64 (.s a0_9), .int .i64 (.s a0_10), .int .i64 (.s a0_11), .int .i64 (.s a0_12), .int .i64 (.s a0_13), .int .i64 (.s a0_14), .int .i64 (.s a0_15)], .agg [.int .i64 (.s a1_0), .int .i64 (.s a1_1)], .int .i64 (.s a2)] [] 0).opt r_i64_i64_i64.dec = vespersref16_Judge.f a0_0 a0_1 a0_2 a0_3 a0_4 a0_5 a0_6 a0_7 a0_8 a0_9 a0_10 a0_11 a0_12 a0_13 a0_14 a0_15 a1_0 a1_1 a2 := by kernel_rfl
  exact calls_of named mixed t_vespersref09_Of_ok.ct vespersref09_Of.lt0_ok ht h (by kernel_rfl) (by kernel_rfl) w fun _ _ _ _ _ hd hx => r_i64_i64_i64.ok hd hx
noncomputable def vespersref16_Judge.c : Entry := fun args _ _ => g_i64x16 args fun a0_0 a0_1 a0_2 a0_3 a0_4 a0_5 a0_6 a0_7 a0_8 a0_9 a0_10 a0_11 a0_12 a0_13 a0_14 a0_15 args => g_i64x2 args fun a1_0 a1_1 args => aI .i64 args fun a2 args => aN args (some { o := vespersref16_Judge.f a0_0 a0_1 a0_2 a0_3 a0_4 a0_5 a0_6 a0_7 a0_8 a0_9 a0_10 a0_11 a0_12 a0_13 a0_14 a0_15 a1_0 a1_1 a2, enc := r_i64_i64_i64.enc })
theorem vespersref16_Judge.ok : EntryOK Try.prog 16 vespersref16_Judge.c := by
  intro args H hn c h _ r hr ρ w xs hx hrel
  unfold vespersref16_Judge.c at h
  obtain ⟨a0_0, a0_1, a0_2, a0_3, a0_4, a0_5, a0_6, a0_7, a0_8, a0_9, a0_10, a0_11, a0_12, a0_13, a0_14, a0_15, xs, args, rfl, hx, h⟩ := g_i64x16_ok h hx
  obtain ⟨a1_0, a1_1, xs, args, rfl, hx, h⟩ := g_i64x2_ok h hx
  obtain ⟨a2, xs, args, rfl, hx, h⟩ := aI_ok h hx
  obtain ⟨rfl, h⟩ := aN_ok h hx
  cases h
  obtain ⟨r1, r2, r3⟩ := r
  refine (vespersref16_Judge.calls a0_0 a0_1 a0_2 a0_3 a0_4 a0_5 a0_6 a0_7 a0_8 a0_9 a0_10 a0_11 a0_12 a0_13 a0_14 a0_15 a1_0 a1_1 a2 r1 r2 r3 w hr).mono ?_
  rintro e w' ⟨rfl, hb⟩
  exact ⟨_, ρ, rfl, r_i64_i64_i64.enc_rel ρ (r1, r2, r3), ⟨rfl, hrel.below hb⟩, Eff.of_below hb⟩
noncomputable def t_vespersref16_Judge : List (Nat × Entry) := (16, vespersref16_Judge.c) :: t_vespersref09_Of
theorem t_vespersref16_Judge_ok : TabOK Try.prog t_vespersref16_Judge := TabOK.cons vespersref16_Judge.ok t_vespersref09_Of_ok
def vespersref16_Place.f (a0_0 : Int) (a0_1 : Int) (a0_2 : Int) (a0_3 : Int) (a0_4 : Int) (a0_5 : Int) (a0_6 : Int) (a0_7 : Int) (a0_8 : Int) (a0_9 : Int) (a0_10 : Int) (a0_11 : Int) (a0_12 : Int) (a0_13 : Int) (a0_14 : Int) (a0_15 : Int) (a1 : Int) : Option (Int × Int × Bool) :=
  ((vespersref09_Of.f a0_0 a0_1 a0_2 a0_3 a0_4 a0_5 a0_6 a0_7 a0_8 a0_9 a0_10 a0_11 a0_12 a0_13 a0_14 a0_15 a1).bind fun t0 => (if t0.snd.snd ≠ 0 then some (0, 0, false) else ((vespersref16_Judge.f a0_0 a0_1 a0_2 a0_3 a0_4 a0_5 a0_6 a0_7 a0_8 a0_9 a0_10 a0_11 a0_12 a0_13 a0_14 a0_15 t0.fst t0.snd.fst a1).bind fun t1 => (if t1.snd.snd ≠ 0 then some (0, 0, false) else (if t1.fst ≠ 2 then some (0, 0, false) else some (t0.fst, t0.snd.fst, true))))))
set_option maxRecDepth 100000 in
theorem vespersref16_Place.calls (a0_0 : Int) (a0_1 : Int) (a0_2 : Int) (a0_3 : Int) (a0_4 : Int) (a0_5 : Int) (a0_6 : Int) (a0_7 : Int) (a0_8 : Int) (a0_9 : Int) (a0_10 : Int) (a0_11 : Int) (a0_12 : Int) (a0_13 : Int) (a0_14 : Int) (a0_15 : Int) (a1 : Int) (r1 : Int) (r2 : Int) (r3 : Bool) (w : World) (h : vespersref16_Place.f a0_0 a0_1 a0_2 a0_3 a0_4 a0_5 a0_6 a0_7 a0_8 a0_9 a0_10 a0_11 a0_12 a0_13 a0_14 a0_15 a1 = some (r1, r2, r3)) :
    Calls Try.prog 17 #[.agg #[.int .i64 a0_0, .int .i64 a0_1, .int .i64 a0_2, .int .i64 a0_3, .int .i64 a0_4, .int .i64 a0_5, .int .i64 a0_6, .int .i64 a0_7, .int .i64 a0_8, .int .i64 a0_9, .int .i64 a0_10, .int .i64 a0_11, .int .i64 a0_12, .int .i64 a0_13, .int .i64 a0_14, .int .i64 a0_15], .int .i64 a1] w fun e w' => e = .returned (.tuple #[.agg #[.int .i64 r1, .int .i64 r2], .bool r3]) ∧ Below w.heap.size w w' := by
  have ht : (walk Try.prog (ctOf t_vespersref16_Judge) (ltOf vespersref09_Of.lt0) 100000 17 [.agg [.int .i64 (.s a0_0), .int .i64 (.s a0_1), .int .i64 (.s a0_2), .int .i64 (.s a0_3), .int .i64 (.s a0_4), .int .i64 (.s a0_5), .int .i64 (.s a0_6), .int .i64 (.s a0_7), .int .i64 (.s a0_8), .int .i64 (.s a0_9), .int .i64 (.s a0_10), .int .i64 (.s a0_11), .int .i64 (.s a0_12), .int .i64 (.s a0_13), .int .i64 (.s a0_14), .int .i64 (.s a0_15)], .int .i64 (.s a1)] [] 0).opt r_i64x2_bool.dec = vespersref16_Place.f a0_0 a0_1 a0_2 a0_3 a0_4 a0_5 a0_6 a0_7 a0_8 a0_9 a0_10 a0_11 a0_12 a0_13 a0_14 a0_15 a1 := by kernel_rfl
  exact calls_of named mixed t_vespersref16_Judge_ok.ct vespersref09_Of.lt0_ok ht h (by kernel_rfl) (by kernel_rfl) w fun _ _ _ _ _ hd hx => r_i64x2_bool.ok hd hx
noncomputable def vespersref16_Place.c : Entry := fun args _ _ => g_i64x16 args fun a0_0 a0_1 a0_2 a0_3 a0_4 a0_5 a0_6 a0_7 a0_8 a0_9 a0_10 a0_11 a0_12 a0_13 a0_14 a0_15 args => aI .i64 args fun a1 args => aN args (some { o := vespersref16_Place.f a0_0 a0_1 a0_2 a0_3 a0_4 a0_5 a0_6 a0_7 a0_8 a0_9 a0_10 a0_11 a0_12 a0_13 a0_14 a0_15 a1, enc := r_i64x2_bool.enc })
theorem vespersref16_Place.ok : EntryOK Try.prog 17 vespersref16_Place.c := by
  intro args H hn c h _ r hr ρ w xs hx hrel
  unfold vespersref16_Place.c at h
  obtain ⟨a0_0, a0_1, a0_2, a0_3, a0_4, a0_5, a0_6, a0_7, a0_8, a0_9, a0_10, a0_11, a0_12, a0_13, a0_14, a0_15, xs, args, rfl, hx, h⟩ := g_i64x16_ok h hx
  obtain ⟨a1, xs, args, rfl, hx, h⟩ := aI_ok h hx
  obtain ⟨rfl, h⟩ := aN_ok h hx
  cases h
  obtain ⟨r1, r2, r3⟩ := r
  refine (vespersref16_Place.calls a0_0 a0_1 a0_2 a0_3 a0_4 a0_5 a0_6 a0_7 a0_8 a0_9 a0_10 a0_11 a0_12 a0_13 a0_14 a0_15 a1 r1 r2 r3 w hr).mono ?_
  rintro e w' ⟨rfl, hb⟩
  exact ⟨_, ρ, rfl, r_i64x2_bool.enc_rel ρ (r1, r2, r3), ⟨rfl, hrel.below hb⟩, Eff.of_below hb⟩
noncomputable def t_vespersref16_Place : List (Nat × Entry) := (17, vespersref16_Place.c) :: t_vespersref16_Judge
theorem t_vespersref16_Place_ok : TabOK Try.prog t_vespersref16_Place := TabOK.cons vespersref16_Place.ok t_vespersref16_Judge_ok
def r_i64x16.dec : AV → Heap → Nat → Option (Int × Int × Int × Int × Int × Int × Int × Int × Int × Int × Int × Int × Int × Int × Int × Int)
  | .agg [x0, x1, x2, x3, x4, x5, x6, x7, x8, x9, x10, x11, x12, x13, x14, x15], _, _ => (dI .i64 x0).bind fun n0 => (dI .i64 x1).bind fun n1 => (dI .i64 x2).bind fun n2 => (dI .i64 x3).bind fun n3 => (dI .i64 x4).bind fun n4 => (dI .i64 x5).bind fun n5 => (dI .i64 x6).bind fun n6 => (dI .i64 x7).bind fun n7 => (dI .i64 x8).bind fun n8 => (dI .i64 x9).bind fun n9 => (dI .i64 x10).bind fun n10 => (dI .i64 x11).bind fun n11 => (dI .i64 x12).bind fun n12 => (dI .i64 x13).bind fun n13 => (dI .i64 x14).bind fun n14 => (dI .i64 x15).bind fun n15 => some (n0, n1, n2, n3, n4, n5, n6, n7, n8, n9, n10, n11, n12, n13, n14, n15)
  | _, _, _ => none
def r_i64x16.enc (r : Int × Int × Int × Int × Int × Int × Int × Int × Int × Int × Int × Int × Int × Int × Int × Int) : AV := .agg [.int .i64 (.s r.1), .int .i64 (.s r.2.1), .int .i64 (.s r.2.2.1), .int .i64 (.s r.2.2.2.1), .int .i64 (.s r.2.2.2.2.1), .int .i64 (.s r.2.2.2.2.2.1), .int .i64 (.s r.2.2.2.2.2.2.1), .int .i64 (.s r.2.2.2.2.2.2.2.1), .int .i64 (.s r.2.2.2.2.2.2.2.2.1), .int .i64 (.s r.2.2.2.2.2.2.2.2.2.1), .int .i64 (.s r.2.2.2.2.2.2.2.2.2.2.1), .int .i64 (.s r.2.2.2.2.2.2.2.2.2.2.2.1), .int .i64 (.s r.2.2.2.2.2.2.2.2.2.2.2.2.1), .int .i64 (.s r.2.2.2.2.2.2.2.2.2.2.2.2.2.1), .int .i64 (.s r.2.2.2.2.2.2.2.2.2.2.2.2.2.2.1), .int .i64 (.s r.2.2.2.2.2.2.2.2.2.2.2.2.2.2.2)]
abbrev r_i64x16.val (r : Int × Int × Int × Int × Int × Int × Int × Int × Int × Int × Int × Int × Int × Int × Int × Int) : Value := .agg #[.int .i64 r.1, .int .i64 r.2.1, .int .i64 r.2.2.1, .int .i64 r.2.2.2.1, .int .i64 r.2.2.2.2.1, .int .i64 r.2.2.2.2.2.1, .int .i64 r.2.2.2.2.2.2.1, .int .i64 r.2.2.2.2.2.2.2.1, .int .i64 r.2.2.2.2.2.2.2.2.1, .int .i64 r.2.2.2.2.2.2.2.2.2.1, .int .i64 r.2.2.2.2.2.2.2.2.2.2.1, .int .i64 r.2.2.2.2.2.2.2.2.2.2.2.1, .int .i64 r.2.2.2.2.2.2.2.2.2.2.2.2.1, .int .i64 r.2.2.2.2.2.2.2.2.2.2.2.2.2.1, .int .i64 r.2.2.2.2.2.2.2.2.2.2.2.2.2.2.1, .int .i64 r.2.2.2.2.2.2.2.2.2.2.2.2.2.2.2]
theorem r_i64x16.enc_rel (ρ : Pl) (r : Int × Int × Int × Int × Int × Int × Int × Int × Int × Int × Int × Int × Int × Int × Int × Int) : (r_i64x16.enc r).rel ρ (r_i64x16.val r) := AV.flat_rel _ rfl
theorem r_i64x16.ok {v : AV} {H : Heap} {hn : Nat} {r : Int × Int × Int × Int × Int × Int × Int × Int × Int × Int × Int × Int × Int × Int × Int × Int} {ρ : Pl} {x : Value} (h : r_i64x16.dec v H hn = some r) (hx : v.rel ρ x) : x = r_i64x16.val r := by
  unfold r_i64x16.dec at h
  split at h
  · obtain ⟨n0, e0, h⟩ := Option.bind_eq_some_iff.1 h
    obtain ⟨n1, e1, h⟩ := Option.bind_eq_some_iff.1 h
    obtain ⟨n2, e2, h⟩ := Option.bind_eq_some_iff.1 h
    obtain ⟨n3, e3, h⟩ := Option.bind_eq_some_iff.1 h
    obtain ⟨n4, e4, h⟩ := Option.bind_eq_some_iff.1 h
    obtain ⟨n5, e5, h⟩ := Option.bind_eq_some_iff.1 h
    obtain ⟨n6, e6, h⟩ := Option.bind_eq_some_iff.1 h
    obtain ⟨n7, e7, h⟩ := Option.bind_eq_some_iff.1 h
    obtain ⟨n8, e8, h⟩ := Option.bind_eq_some_iff.1 h
    obtain ⟨n9, e9, h⟩ := Option.bind_eq_some_iff.1 h
    obtain ⟨n10, e10, h⟩ := Option.bind_eq_some_iff.1 h
    obtain ⟨n11, e11, h⟩ := Option.bind_eq_some_iff.1 h
    obtain ⟨n12, e12, h⟩ := Option.bind_eq_some_iff.1 h
    obtain ⟨n13, e13, h⟩ := Option.bind_eq_some_iff.1 h
    obtain ⟨n14, e14, h⟩ := Option.bind_eq_some_iff.1 h
    obtain ⟨n15, e15, h⟩ := Option.bind_eq_some_iff.1 h
    cases h
    obtain ⟨z, hx, rfl⟩ := hx
    obtain ⟨y1, y2, hy1, hx, rfl⟩ := hx
    obtain rfl := dI_ok e0 hy1
    obtain ⟨y3, y4, hy3, hx, rfl⟩ := hx
    obtain rfl := dI_ok e1 hy3
    obtain ⟨y5, y6, hy5, hx, rfl⟩ := hx
    obtain rfl := dI_ok e2 hy5
    obtain ⟨y7, y8, hy7, hx, rfl⟩ := hx
    obtain rfl := dI_ok e3 hy7
    obtain ⟨y9, y10, hy9, hx, rfl⟩ := hx
    obtain rfl := dI_ok e4 hy9
    obtain ⟨y11, y12, hy11, hx, rfl⟩ := hx
    obtain rfl := dI_ok e5 hy11
    obtain ⟨y13, y14, hy13, hx, rfl⟩ := hx
    obtain rfl := dI_ok e6 hy13
    obtain ⟨y15, y16, hy15, hx, rfl⟩ := hx
    obtain rfl := dI_ok e7 hy15
    obtain ⟨y17, y18, hy17, hx, rfl⟩ := hx
    obtain rfl := dI_ok e8 hy17
    obtain ⟨y19, y20, hy19, hx, rfl⟩ := hx
    obtain rfl := dI_ok e9 hy19
    obtain ⟨y21, y22, hy21, hx, rfl⟩ := hx
    obtain rfl := dI_ok e10 hy21
    obtain ⟨y23, y24, hy23, hx, rfl⟩ := hx
    obtain rfl := dI_ok e11 hy23
    obtain ⟨y25, y26, hy25, hx, rfl⟩ := hx
    obtain rfl := dI_ok e12 hy25
    obtain ⟨y27, y28, hy27, hx, rfl⟩ := hx
    obtain rfl := dI_ok e13 hy27
    obtain ⟨y29, y30, hy29, hx, rfl⟩ := hx
    obtain rfl := dI_ok e14 hy29
    obtain ⟨y31, y32, hy31, hx, rfl⟩ := hx
    obtain rfl := dI_ok e15 hy31
    obtain rfl := (show _ = [] from hx)
    rfl
  · cases h
def vesperslaw16_some.f  : Option (Int × Int × Int × Int × Int × Int × Int × Int × Int × Int × Int × Int × Int × Int × Int × Int) :=
  some (4, 1, 512, 248, 96, 1, 1, 3, 100000, 88, 64, 10416, 2, 1, 4, 81920)
set_option maxRecDepth 100000 in
theorem vesperslaw16_some.calls (r1 : Int) (r2 : Int) (r3 : Int) (r4 : Int) (r5 : Int) (r6 : Int) (r7 : Int) (r8 : Int) (r9 : Int) (r10 : Int) (r11 : Int) (r12 : Int) (r13 : Int) (r14 : Int) (r15 : Int) (r16 : Int) (w : World) (h : vesperslaw16_some.f = some (r1, r2, r3, r4, r5, r6, r7, r8, r9, r10, r11, r12, r13, r14, r15, r16)) :
    Calls Try.prog 20 #[] w fun e w' => e = .returned (.agg #[.int .i64 r1, .int .i64 r2, .int .i64 r3, .int .i64 r4, .int .i64 r5, .int .i64 r6, .int .i64 r7, .int .i64 r8, .int .i64 r9, .int .i64 r10, .int .i64 r11, .int .i64 r12, .int .i64 r13, .int .i64 r14, .int .i64 r15, .int .i64 r16]) ∧ Below w.heap.size w w' := by
  have ht : (walk Try.prog (ctOf []) noL 100000 20 [] [] 0).opt r_i64x16.dec = vesperslaw16_some.f := by kernel_rfl
  exact calls_of named mixed (TabOK.nil).ct noL_ok ht h (by kernel_rfl) (by kernel_rfl) w fun _ _ _ _ _ hd hx => r_i64x16.ok hd hx
noncomputable def vesperslaw16_some.c : Entry := fun args _ _ => aN args (some { o := vesperslaw16_some.f, enc := r_i64x16.enc })
theorem vesperslaw16_some.ok : EntryOK Try.prog 20 vesperslaw16_some.c := by
  intro args H hn c h _ r hr ρ w xs hx hrel
  unfold vesperslaw16_some.c at h
  obtain ⟨rfl, h⟩ := aN_ok h hx
  cases h
  obtain ⟨r1, r2, r3, r4, r5, r6, r7, r8, r9, r10, r11, r12, r13, r14, r15, r16⟩ := r
  refine (vesperslaw16_some.calls r1 r2 r3 r4 r5 r6 r7 r8 r9 r10 r11 r12 r13 r14 r15 r16 w hr).mono ?_
  rintro e w' ⟨rfl, hb⟩
  exact ⟨_, ρ, rfl, r_i64x16.enc_rel ρ (r1, r2, r3, r4, r5, r6, r7, r8, r9, r10, r11, r12, r13, r14, r15, r16), ⟨rfl, hrel.below hb⟩, Eff.of_below hb⟩
noncomputable def t_vesperslaw16_some : List (Nat × Entry) := (20, vesperslaw16_some.c) :: t_vespersref16_Place
theorem t_vesperslaw16_some_ok : TabOK Try.prog t_vesperslaw16_some := TabOK.cons vesperslaw16_some.ok t_vespersref16_Place_ok
def vesperslaw16_judged.f (a0 : Int) : Option Int :=
  ((vesperslaw16_some.f).bind fun t0 => ((window_Judge.f t0.fst t0.snd.fst t0.snd.snd.fst t0.snd.snd.snd.fst t0.snd.snd.snd.snd.fst t0.snd.snd.snd.snd.snd.fst t0.snd.snd.snd.snd.snd.snd.fst t0.snd.snd.snd.snd.snd.snd.snd.fst t0.snd.snd.snd.snd.snd.snd.snd.snd.fst t0.snd.snd.snd.snd.snd.snd.snd.snd.snd.fst t0.snd.snd.snd.snd.snd.snd.snd.snd.snd.snd.fst t0.snd.snd.snd.snd.snd.snd.snd.snd.snd.snd.snd.fst t0.snd.snd.snd.snd.snd.snd.snd.snd.snd.snd.snd.snd.fst t0.snd.snd.snd.snd.snd.snd.snd.snd.snd.snd.snd.snd.snd.fst t0.snd.snd.snd.snd.snd.snd.snd.snd.snd.snd.snd.snd.snd.snd.fst t0.snd.snd.snd.snd.snd.snd.snd.snd.snd.snd.snd.snd.snd.snd.snd 0 0 a0).bind fun t1 => (if t1.snd.snd ≠ 0 then some (-1) else some (wrap64 (wrap64 (1000 * t1.fst) + t1.snd.fst)))))
set_option maxRecDepth 100000 in
theorem vesperslaw16_judged.calls (a0 : Int) (r : Int) (w : World) (h : vesperslaw16_judged.f a0 = some r) :
    Calls Try.prog 21 #[.int .i64 a0] w fun e w' => e = .returned (.int .i64 r) ∧ Below w.heap.size w w' := by
  have ht : (walk Try.prog (ctOf t_vesperslaw16_some) (ltOf vespersref09_Of.lt0) 100000 21 [.int .i64 (.s a0)] [] 0).opt r_i64.dec = vesperslaw16_judged.f a0 := by kernel_rfl
  exact calls_of named mixed t_vesperslaw16_some_ok.ct vespersref09_Of.lt0_ok ht h (by kernel_rfl) (by kernel_rfl) w fun _ _ _ _ _ hd hx => r_i64.ok hd hx
noncomputable def vesperslaw16_judged.c : Entry := fun args _ _ => aI .i64 args fun a0 args => aN args (some { o := vesperslaw16_judged.f a0, enc := r_i64.enc })
theorem vesperslaw16_judged.ok : EntryOK Try.prog 21 vesperslaw16_judged.c := by
  intro args H hn c h _ r hr ρ w xs hx hrel
  unfold vesperslaw16_judged.c at h
  obtain ⟨a0, xs, args, rfl, hx, h⟩ := aI_ok h hx
  obtain ⟨rfl, h⟩ := aN_ok h hx
  cases h
  refine (vesperslaw16_judged.calls a0 r w hr).mono ?_
  rintro e w' ⟨rfl, hb⟩
  exact ⟨_, ρ, rfl, r_i64.enc_rel ρ r, ⟨rfl, hrel.below hb⟩, Eff.of_below hb⟩
noncomputable def t_vesperslaw16_judged : List (Nat × Entry) := (21, vesperslaw16_judged.c) :: t_vesperslaw16_some
theorem t_vesperslaw16_judged_ok : TabOK Try.prog t_vesperslaw16_judged := TabOK.cons vesperslaw16_judged.ok t_vesperslaw16_some_ok
def vesperslaw16_alive.f  : Option Bool :=
  ((vesperslaw16_judged.f 250).bind fun t0 => (if t0 = 2000 then ((vesperslaw16_judged.f 153).bind fun t1 => (if t1 = 903 then ((vesperslaw16_judged.f 347).bind fun t2 => (if t2 = 3097 then ((vesperslaw16_judged.f 346).bind fun t3 => some (decide (t3 = 2096))) else some false)) else some false)) else some false))
set_option maxRecDepth 100000 in
theorem vesperslaw16_alive.calls (r : Bool) (w : World) (h : vesperslaw16_alive.f = some r) :
    Calls Try.prog 8 #[] w fun e w' => e = .returned (.bool r) ∧ Below w.heap.size w w' := by
  have ht : (walk Try.prog (ctOf t_vesperslaw16_judged) (ltOf vespersref09_Of.lt0) 100000 8 [] [] 0).opt r_bool.dec = vesperslaw16_alive.f := by kernel_rfl
  exact calls_of named mixed t_vesperslaw16_judged_ok.ct vespersref09_Of.lt0_ok ht h (by kernel_rfl) (by kernel_rfl) w fun _ _ _ _ _ hd hx => r_bool.ok hd hx
noncomputable def vesperslaw16_alive.c : Entry := fun args _ _ => aN args (some { o := vesperslaw16_alive.f, enc := r_bool.enc })
theorem vesperslaw16_alive.ok : EntryOK Try.prog 8 vesperslaw16_alive.c := by
  intro args H hn c h _ r hr ρ w xs hx hrel
  unfold vesperslaw16_alive.c at h
  obtain ⟨rfl, h⟩ := aN_ok h hx
  cases h
  refine (vesperslaw16_alive.calls r w hr).mono ?_
  rintro e w' ⟨rfl, hb⟩
  exact ⟨_, ρ, rfl, r_bool.enc_rel ρ r, ⟨rfl, hrel.below hb⟩, Eff.of_below hb⟩
noncomputable def t_vesperslaw16_alive : List (Nat × Entry) := (8, vesperslaw16_alive.c) :: t_vesperslaw16_judged
theorem t_vesperslaw16_alive_ok : TabOK Try.prog t_vesperslaw16_alive := TabOK.cons vesperslaw16_alive.ok t_vesperslaw16_judged_ok
noncomputable abbrev tab_S2 : List (Nat × Entry) := t_vesperslaw16_alive
theorem tab_S2_ok : TabOK Try.prog tab_S2 := t_vesperslaw16_alive_ok
noncomputable abbrev lt_S2 : List (Nat × Nat × LC) := vespersref09_Of.lt0
theorem lt_S2_ok : LtOK Try.prog (ltOf lt_S2) := vespersref09_Of.lt0_ok
end
end Go.Proofs.Ytlekjgjhbanimaa.S
