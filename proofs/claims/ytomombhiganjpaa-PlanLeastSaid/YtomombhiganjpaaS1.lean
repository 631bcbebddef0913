/- Contracts by the symbolic walk: plan_Fit, vespersref07_numbers, vespersref07_first, vespersref07_Fails, vespersref07_Check, vespersref07_Round, vespersref07_Numbers, vespersref07_With, vespersref07_Fit, vesperslaw07_alive, vesperslaw07_PlanFits, vesperslaw07_PlanLeast. -/
import Derived.Test.YtomombhiganjpaaProg
import Derived.Test.YtomombhiganjpaaSXk
import Derived.Test.YtomombhiganjpaaS0
namespace Go.Proofs.Ytomombhiganjpaa.S
open Go Go.RowKit Go.Proofs.Ytomombhiganjpaa.SX Go.Proofs
set_option linter.unusedVariables false
noncomputable section
def r_i64x16_i64.dec : AV → Heap → Nat → Option (Int × Int × Int × Int × Int × Int × Int × Int × Int × Int × Int × Int × Int × Int × Int × Int × Int)
  | .tup [.agg [x0, x1, x2, x3, x4, x5, x6, x7, x8, x9, x10, x11, x12, x13, x14, x15], x16], _, _ => (dI .i64 x0).bind fun n0 => (dI .i64 x1).bind fun n1 => (dI .i64 x2).bind fun n2 => (dI .i64 x3).bind fun n3 => (dI .i64 x4).bind fun n4 => (dI .i64 x5).bind fun n5 => (dI .i64 x6).bind fun n6 => (dI .i64 x7).bind fun n7 => (dI .i64 x8).bind fun n8 => (dI .i64 x9).bind fun n9 => (dI .i64 x10).bind fun n10 => (dI .i64 x11).bind fun n11 => (dI .i64 x12).bind fun n12 => (dI .i64 x13).bind fun n13 => (dI .i64 x14).bind fun n14 => (dI .i64 x15).bind fun n15 => (dI .i64 x16).bind fun n16 => some (n0, n1, n2, n3, n4, n5, n6, n7, n8, n9, n10, n11, n12, n13, n14, n15, n16)
  | _, _, _ => none
def r_i64x16_i64.enc (r : Int × Int × Int × Int × Int × Int × Int × Int × Int × Int × Int × Int × Int × Int × Int × Int × Int) : AV := .tup [.agg [.int .i64 (.s r.1), .int .i64 (.s r.2.1), .int .i64 (.s r.2.2.1), .int .i64 (.s r.2.2.2.1), .int .i64 (.s r.2.2.2.2.1), .int .i64 (.s r.2.2.2.2.2.1), .int .i64 (.s r.2.2.2.2.2.2.1), .int .i64 (.s r.2.2.2.2.2.2.2.1), .int .i64 (.s r.2.2.2.2.2.2.2.2.1), .int .i64 (.s r.2.2.2.2.2.2.2.2.2.1), .int .i64 (.s r.2.2.2.2.2.2.2.2.2.2.1), .int .i64 (.s r.2.2.2.2.2.2.2.2.2.2.2.1), .int .i64 (.s r.2.2.2.2.2.2.2.2.2.2.2.2.1), .int .i64 (.s r.2.2.2.2.2.2.2.2.2.2.2.2.2.1), .int .i64 (.s r.2.2.2.2.2.2.2.2.2.2.2.2.2.2.1), .int .i64 (.s r.2.2.2.2.2.2.2.2.2.2.2.2.2.2.2.1)], .int .i64 (.s r.2.2.2.2.2.2.2.2.2.2.2.2.2.2.2.2)]
abbrev r_i64x16_i64.val (r : Int × Int × Int × Int × Int × Int × Int × Int × Int × Int × Int × Int × Int × Int × Int × Int × Int) : Value := .tuple #[.agg #[.int .i64 r.1, .int .i64 r.2.1, .int .i64 r.2.2.1, .int .i64 r.2.2.2.1, .int .i64 r.2.2.2.2.1, .int .i64 r.2.2.2.2.2.1, .int .i64 r.2.2.2.2.2.2.1, .int .i64 r.2.2.2.2.2.2.2.1, .int .i64 r.2.2.2.2.2.2.2.2.1, .int .i64 r.2.2.2.2.2.2.2.2.2.1, .int .i64 r.2.2.2.2.2.2.2.2.2.2.1, .int .i64 r.2.2.2.2.2.2.2.2.2.2.2.1, .int .i64 r.2.2.2.2.2.2.2.2.2.2.2.2.1, .int .i64 r.2.2.2.2.2.2.2.2.2.2.2.2.2.1, .int .i64 r.2.2.2.2.2.2.2.2.2.2.2.2.2.2.1, .int .i64 r.2.2.2.2.2.2.2.2.2.2.2.2.2.2.2.1], .int .i64 r.2.2.2.2.2.2.2.2.2.2.2.2.2.2.2.2]
theorem r_i64x16_i64.enc_rel (ρ : Pl) (r : Int × Int × Int × Int × Int × Int × Int × Int × Int × Int × Int × Int × Int × Int × Int × Int × Int) : (r_i64x16_i64.enc r).rel ρ (r_i64x16_i64.val r) := AV.flat_rel _ rfl
theorem r_i64x16_i64.ok {v : AV} {H : Heap} {hn : Nat} {r : Int × Int × Int × Int × Int × Int × Int × Int × Int × Int × Int × Int × Int × Int × Int × Int × Int} {ρ : Pl} {x : Value} (h : r_i64x16_i64.dec v H hn = some r) (hx : v.rel ρ x) : x = r_i64x16_i64.val r := by
  unfold r_i64x16_i64.dec at h
  split at h
  · obtain ⟨n0, e0, h⟩ := Option.bind_eq_some_iff.1 h
    obtain ⟨n1, e1, h⟩ := Option.bind_eq_some_iff.1 h
    obtain ⟨n2, e2, h⟩ := Option.bind_eq_some_iff.1 h
    obtain ⟨n3, e3, h⟩ := Option.bind_eq_some_iff.1 h
    obtain ⟨n4, e4, h⟩ := Option.bind_eq_some_iff.1 h
    obtain ⟨n5, e5, h⟩ := Option.bind_eq_some_iff.1 h
    obtain ⟨n6, e6, h⟩ := Option.bind_eq_some_iff.1 h
    obtain ⟨n7, e7, h⟩ := Option.bind_eq_some_iff.1 h
    obtain ⟨n8, e8, h⟩ := Option.bind_eq_some_iff.1 h
    obtain ⟨n9, e9, h⟩ := Option.bind_eq_some_iff.1 h
    obtain ⟨n10, e10, h⟩ := Option.bind_eq_some_iff.1 h
    obtain ⟨n11, e11, h⟩ := Option.bind_eq_some_iff.1 h
    obtain ⟨n12, e12, h⟩ := Option.bind_eq_some_iff.1 h
    obtain ⟨n13, e13, h⟩ := Option.bind_eq_some_iff.1 h
    obtain ⟨n14, e14, h⟩ := Option.bind_eq_some_iff.1 h
    obtain ⟨n15, e15, h⟩ := Option.bind_eq_some_iff.1 h
    obtain ⟨n16, e16, h⟩ := Option.bind_eq_some_iff.1 h
    cases h
    obtain ⟨z, hx, rfl⟩ := hx
    obtain ⟨y1, y2, hy1, hx, rfl⟩ := hx
    obtain ⟨y3, hy1, rfl⟩ := hy1
    obtain ⟨y4, y5, hy4, hy1, rfl⟩ := hy1
    obtain rfl := dI_ok e0 hy4
    obtain ⟨y6, y7, hy6, hy1, rfl⟩ := hy1
    obtain rfl := dI_ok e1 hy6
    obtain ⟨y8, y9, hy8, hy1, rfl⟩ := hy1
    obtain rfl := dI_ok e2 hy8
    obtain ⟨y10, y11, hy10, hy1, rfl⟩ := hy1
    obtain rfl := dI_ok e3 hy10
    obtain ⟨y12, y13, hy12, hy1, rfl⟩ := hy1
    obtain rfl := dI_ok e4 hy12
    obtain ⟨y14, y15, hy14, hy1, rfl⟩ := hy1
    obtain rfl := dI_ok e5 hy14
    obtain ⟨y16, y17, hy16, hy1, rfl⟩ := hy1
    obtain rfl := dI_ok e6 hy16
    obtain ⟨y18, y19, hy18, hy1, rfl⟩ := hy1
    obtain rfl := dI_ok e7 hy18
    obtain ⟨y20, y21, hy20, hy1, rfl⟩ := hy1
    obtain rfl := dI_ok e8 hy20
    obtain ⟨y22, y23, hy22, hy1, rfl⟩ := hy1
    obtain rfl := dI_ok e9 hy22
    obtain ⟨y24, y25, hy24, hy1, rfl⟩ := hy1
    obtain rfl := dI_ok e10 hy24
    obtain ⟨y26, y27, hy26, hy1, rfl⟩ := hy1
    obtain rfl := dI_ok e11 hy26
    obtain ⟨y28, y29, hy28, hy1, rfl⟩ := hy1
    obtain rfl := dI_ok e12 hy28
    obtain ⟨y30, y31, hy30, hy1, rfl⟩ := hy1
    obtain rfl := dI_ok e13 hy30
    obtain ⟨y32, y33, hy32, hy1, rfl⟩ := hy1
    obtain rfl := dI_ok e14 hy32
    obtain ⟨y34, y35, hy34, hy1, rfl⟩ := hy1
    obtain rfl := dI_ok e15 hy34
    obtain rfl := (show _ = [] from hy1)
    obtain ⟨y36, y37, hy36, hx, rfl⟩ := hx
    obtain rfl := dI_ok e16 hy36
    obtain rfl := (show _ = [] from hx)
    rfl
  · cases h
abbrev plan_Fit.X0 := Int × Int × Int × Int × Int × Int × Int × Int × Int × Int × Int × Int × Int × Int × Int × Int
def plan_Fit.decX0 : List AV → Option plan_Fit.X0
  | [y0, y1, y2, y3, y4, y5, y6, y7, y8, y9, y10, y11, y12, y13, y14, y15] => (dI .i64 y0).bind fun n0 => (dI .i64 y1).bind fun n1 => (dI .i64 y2).bind fun n2 => (dI .i64 y3).bind fun n3 => (dI .i64 y4).bind fun n4 => (dI .i64 y5).bind fun n5 => (dI .i64 y6).bind fun n6 => (dI .i64 y7).bind fun n7 => (dI .i64 y8).bind fun n8 => (dI .i64 y9).bind fun n9 => (dI .i64 y10).bind fun n10 => (dI .i64 y11).bind fun n11 => (dI .i64 y12).bind fun n12 => (dI .i64 y13).bind fun n13 => (dI .i64 y14).bind fun n14 => (dI .i64 y15).bind fun n15 => some (n0, n1, n2, n3, n4, n5, n6, n7, n8, n9, n10, n11, n12, n13, n14, n15)
  | _ => none
def plan_Fit.encX0 (x : plan_Fit.X0) : List AV := [.int .i64 (.s x.1), .int .i64 (.s x.2.1), .int .i64 (.s x.2.2.1), .int .i64 (.s x.2.2.2.1), .int .i64 (.s x.2.2.2.2.1), .int .i64 (.s x.2.2.2.2.2.1), .int .i64 (.s x.2.2.2.2.2.2.1), .int .i64 (.s x.2.2.2.2.2.2.2.1), .int .i64 (.s x.2.2.2.2.2.2.2.2.1), .int .i64 (.s x.2.2.2.2.2.2.2.2.2.1), .int .i64 (.s x.2.2.2.2.2.2.2.2.2.2.1), .int .i64 (.s x.2.2.2.2.2.2.2.2.2.2.2.1), .int .i64 (.s x.2.2.2.2.2.2.2.2.2.2.2.2.1), .int .i64 (.s x.2.2.2.2.2.2.2.2.2.2.2.2.2.1), .int .i64 (.s x.2.2.2.2.2.2.2.2.2.2.2.2.2.2.1), .int .i64 (.s x.2.2.2.2.2.2.2.2.2.2.2.2.2.2.2)]
theorem plan_Fit.decX0_ok (ys : List AV) (x : plan_Fit.X0) (h : plan_Fit.decX0 ys = some x) : Ptw ys (plan_Fit.encX0 x) := by
  unfold plan_Fit.decX0 at h
  split at h
  · obtain ⟨n0, e0, h⟩ := Option.bind_eq_some_iff.1 h
    obtain ⟨n1, e1, h⟩ := Option.bind_eq_some_iff.1 h
    obtain ⟨n2, e2, h⟩ := Option.bind_eq_some_iff.1 h
    obtain ⟨n3, e3, h⟩ := Option.bind_eq_some_iff.1 h
    obtain ⟨n4, e4, h⟩ := Option.bind_eq_some_iff.1 h
    obtain ⟨n5, e5, h⟩ := Option.bind_eq_some_iff.1 h
    obtain ⟨n6, e6, h⟩ := Option.bind_eq_some_iff.1 h
    obtain ⟨n7, e7, h⟩ := Option.bind_eq_some_iff.1 h
    obtain ⟨n8, e8, h⟩ := Option.bind_eq_some_iff.1 h
    obtain ⟨n9, e9, h⟩ := Option.bind_eq_some_iff.1 h
    obtain ⟨n10, e10, h⟩ := Option.bind_eq_some_iff.1 h
    obtain ⟨n11, e11, h⟩ := Option.bind_eq_some_iff.1 h
    obtain ⟨n12, e12, h⟩ := Option.bind_eq_some_iff.1 h
    obtain ⟨n13, e13, h⟩ := Option.bind_eq_some_iff.1 h
    obtain ⟨n14, e14, h⟩ := Option.bind_eq_some_iff.1 h
    obtain ⟨n15, e15, h⟩ := Option.bind_eq_some_iff.1 h
    cases h
    exact ⟨fun ρ x hx => dI_ok e0 hx, ⟨fun ρ x hx => dI_ok e1 hx, ⟨fun ρ x hx => dI_ok e2 hx, ⟨fun ρ x hx => dI_ok e3 hx, ⟨fun ρ x hx => dI_ok e4 hx, ⟨fun ρ x hx => dI_ok e5 hx, ⟨fun ρ x hx => dI_ok e6 hx, ⟨fun ρ x hx => dI_ok e7 hx, ⟨fun ρ x hx => dI_ok e8 hx, ⟨fun ρ x hx => dI_ok e9 hx, ⟨fun ρ x hx => dI_ok e10 hx, ⟨fun ρ x hx => dI_ok e11 hx, ⟨fun ρ x hx => dI_ok e12 hx, ⟨fun ρ x hx => dI_ok e13 hx, ⟨fun ρ x hx => dI_ok e14 hx, ⟨fun ρ x hx => dI_ok e15 hx, trivial⟩⟩⟩⟩⟩⟩⟩⟩⟩⟩⟩⟩⟩⟩⟩⟩
  · cases h
abbrev plan_Fit.Y0 := Unit
def plan_Fit.decY0 : List AV → Option plan_Fit.Y0
  | [] => some ()
  | _ => none
def plan_Fit.encY0 (x : plan_Fit.Y0) : List AV := []
theorem plan_Fit.decY0_ok (ys : List AV) (x : plan_Fit.Y0) (h : plan_Fit.decY0 ys = some x) : Ptw ys (plan_Fit.encY0 x) := by
  unfold plan_Fit.decY0 at h
  split at h
  · cases h
    exact trivial
  · cases h
noncomputable def plan_Fit.tm0 : Templ := { fn := 16, sz := szOf Try.prog 16, hn := 4, slots := [(2, .ptr 1 0), (5, .ptr 3 0), (3, .int .i64 0)], H := [(1, 23, [.int .i64 0, .int .i64 0, .int .i64 0, .int .i64 0, .int .i64 0, .int .i64 0, .int .i64 0, .int .i64 0, .int .i64 0, .int .i64 0, .int .i64 0, .int .i64 0, .int .i64 0, .int .i64 0, .int .i64 0, .int .i64 0]), (3, 43, [.hole, .hole, .hole, .hole, .hole, .hole, .hole, .hole, .hole, .hole, .hole, .hole, .hole, .hole, .hole, .hole])] }
noncomputable def plan_Fit.tr0 : Templ := { fn := 16, sz := szOf Try.prog 16, hn := 4, slots := [(2, .ptr 1 0), (3, .int .i64 71)], H := [(1, 23, [.int .i64 0, .int .i64 0, .int .i64 0, .int .i64 0, .int .i64 0, .int .i64 0, .int .i64 0, .int .i64 0, .int .i64 0, .int .i64 0, .int .i64 0, .int .i64 0, .int .i64 0, .int .i64 0, .int .i64 0, .int .i64 0])] }
noncomputable def plan_Fit.b0 : Code := loopOf Try.prog 16 0
noncomputable def plan_Fit.k0 : LK plan_Fit.X0 plan_Fit.Y0 := ⟨plan_Fit.tm0, plan_Fit.tr0, plan_Fit.decX0, plan_Fit.encX0, plan_Fit.decY0, plan_Fit.encY0⟩
theorem plan_Fit.k0_ok : plan_Fit.k0.OK := ⟨plan_Fit.decX0_ok, plan_Fit.decY0_ok⟩
def plan_Fit.step0 (x : plan_Fit.X0) : Option (plan_Fit.X0 ⊕ (plan_Fit.X0 ⊕ plan_Fit.Y0)) :=
  ((plan_look_leastSlot.f x.fst x.snd.fst x.snd.snd.fst x.snd.snd.snd.fst x.snd.snd.snd.snd.fst x.snd.snd.snd.snd.snd.fst x.snd.snd.snd.snd.snd.snd.fst x.snd.snd.snd.snd.snd.snd.snd.fst x.snd.snd.snd.snd.snd.snd.snd.snd.fst x.snd.snd.snd.snd.snd.snd.snd.snd.snd.fst x.snd.snd.snd.snd.snd.snd.snd.snd.snd.snd.fst x.snd.snd.snd.snd.snd.snd.snd.snd.snd.snd.snd.fst x.snd.snd.snd.snd.snd.snd.snd.snd.snd.snd.snd.snd.fst x.snd.snd.snd.snd.snd.snd.snd.snd.snd.snd.snd.snd.snd.fst x.snd.snd.snd.snd.snd.snd.snd.snd.snd.snd.snd.snd.snd.snd.fst x.snd.snd.snd.snd.snd.snd.snd.snd.snd.snd.snd.snd.snd.snd.snd).bind fun t0 => (if x.snd.snd.fst < t0 then ((plan_look_leastSlot.f x.fst x.snd.fst x.snd.snd.fst x.snd.snd.snd.fst x.snd.snd.snd.snd.fst x.snd.snd.snd.snd.snd.fst x.snd.snd.snd.snd.snd.snd.fst x.snd.snd.snd.snd.snd.snd.snd.fst x.snd.snd.snd.snd.snd.snd.snd.snd.fst x.snd.snd.snd.snd.snd.snd.snd.snd.snd.fst x.snd.snd.snd.snd.snd.snd.snd.snd.snd.snd.fst x.snd.snd.snd.snd.snd.snd.snd.snd.snd.snd.snd.fst x.snd.snd.snd.snd.snd.snd.snd.snd.snd.snd.snd.snd.fst x.snd.snd.snd.snd.snd.snd.snd.snd.snd.snd.snd.snd.snd.fst x.snd.snd.snd.snd.snd.snd.snd.snd.snd.snd.snd.snd.snd.snd.fst x.snd.snd.snd.snd.snd.snd.snd.snd.snd.snd.snd.snd.snd.snd.snd).bind fun t1 => (if t1 > 1048576 then some (Sum.inr (Sum.inr ())) else ((plan_look_leastPi.f x.fst x.snd.fst t1 x.snd.snd.snd.fst x.snd.snd.snd.snd.fst x.snd.snd.snd.snd.snd.fst x.snd.snd.snd.snd.snd.snd.fst x.snd.snd.snd.snd.snd.snd.snd.fst x.snd.snd.snd.snd.snd.snd.snd.snd.fst x.snd.snd.snd.snd.snd.snd.snd.snd.snd.fst x.snd.snd.snd.snd.snd.snd.snd.snd.snd.snd.fst x.snd.snd.snd.snd.snd.snd.snd.snd.snd.snd.snd.fst x.snd.snd.snd.snd.snd.snd.snd.snd.snd.snd.snd.snd.fst x.snd.snd.snd.snd.snd.snd.snd.snd.snd.snd.snd.snd.snd.fst x.snd.snd.snd.snd.snd.snd.snd.snd.snd.snd.snd.snd.snd.snd.fst x.snd.snd.snd.snd.snd.snd.snd.snd.snd.snd.snd.snd.snd.snd.snd).bind fun t2 => ((plan_look_leastWindow.f x.fst x.snd.fst t1 x.snd.snd.snd.fst x.snd.snd.snd.snd.fst x.snd.snd.snd.snd.snd.fst x.snd.snd.snd.snd.snd.snd.fst x.snd.snd.snd.snd.snd.snd.snd.fst x.snd.snd.snd.snd.snd.snd.snd.snd.fst t2 x.snd.snd.snd.snd.snd.snd.snd.snd.snd.snd.fst x.snd.snd.snd.snd.snd.snd.snd.snd.snd.snd.snd.fst x.snd.snd.snd.snd.snd.snd.snd.snd.snd.snd.snd.snd.fst x.snd.snd.snd.snd.snd.snd.snd.snd.snd.snd.snd.snd.snd.fst x.snd.snd.snd.snd.snd.snd.snd.snd.snd.snd.snd.snd.snd.snd.fst x.snd.snd.snd.snd.snd.snd.snd.snd.snd.snd.snd.snd.snd.snd.snd).bind fun t3 => ((plan_look_leastCap.f x.fst x.snd.fst t1 x.snd.snd.snd.fst t3 x.snd.snd.snd.snd.snd.fst x.snd.snd.snd.snd.snd.snd.fst x.snd.snd.snd.snd.snd.snd.snd.fst x.snd.snd.snd.snd.snd.snd.snd.snd.fst t2 x.snd.snd.snd.snd.snd.snd.snd.snd.snd.snd.fst x.snd.snd.snd.snd.snd.snd.snd.snd.snd.snd.snd.fst x.snd.snd.snd.snd.snd.snd.snd.snd.snd.snd.snd.snd.fst x.snd.snd.snd.snd.snd.snd.snd.snd.snd.snd.snd.snd.snd.fst x.snd.snd.snd.snd.snd.snd.snd.snd.snd.snd.snd.snd.snd.snd.fst x.snd.snd.snd.snd.snd.snd.snd.snd.snd.snd.snd.snd.snd.snd.snd).bind fun t4 => ((plan_look_leastOff.f x.fst x.snd.fst t1 x.snd.snd.snd.fst t3 x.snd.snd.snd.snd.snd.fst x.snd.snd.snd.snd.snd.snd.fst x.snd.snd.snd.snd.snd.snd.snd.fst x.snd.snd.snd.snd.snd.snd.snd.snd.fst t2 t4 x.snd.snd.snd.snd.snd.snd.snd.snd.snd.snd.snd.fst x.snd.snd.snd.snd.snd.snd.snd.snd.snd.snd.snd.snd.fst x.snd.snd.snd.snd.snd.snd.snd.snd.snd.snd.snd.snd.snd.fst x.snd.snd.snd.snd.snd.snd.snd.snd.snd.snd.snd.snd.snd.snd.fst x.snd.snd.snd.snd.snd.snd.snd.snd.snd.snd.snd.snd.snd.snd.snd).bind fun t5 => ((plan_look_leastDelta.f x.fst x.snd.fst t1 t5 t3 x.snd.snd.snd.snd.snd.fst x.snd.snd.snd.snd.snd.snd.fst x.snd.snd.snd.snd.snd.snd.snd.fst x.snd.snd.snd.snd.snd.snd.snd.snd.fst t2 t4 x.snd.snd.snd.snd.snd.snd.snd.snd.snd.snd.snd.fst x.snd.snd.snd.snd.snd.snd.snd.snd.snd.snd.snd.snd.fst x.snd.snd.snd.snd.snd.snd.snd.snd.snd.snd.snd.snd.snd.fst x.snd.snd.snd.snd.snd.snd.snd.snd.snd.snd.snd.snd.snd.snd.fst x.snd.snd.snd.snd.snd.snd.snd.snd.snd.snd.snd.snd.snd.snd.snd).bind fun t6 => ((plan_look_round.f x.fst x.snd.fst t1 t5 t3 x.snd.snd.snd.snd.snd.fst x.snd.snd.snd.snd.snd.snd.fst x.snd.snd.snd.snd.snd.snd.snd.fst x.snd.snd.snd.snd.snd.snd.snd.snd.fst t2 t4 t6 x.snd.snd.snd.snd.snd.snd.snd.snd.snd.snd.snd.snd.fst x.snd.snd.snd.snd.snd.snd.snd.snd.snd.snd.snd.snd.snd.fst x.snd.snd.snd.snd.snd.snd.snd.snd.snd.snd.snd.snd.snd.snd.fst x.snd.snd.snd.snd.snd.snd.snd.snd.snd.snd.snd.snd.snd.snd.snd).bind fun t7 => some (Sum.inl (x.fst, x.snd.fst, t1, t5, t3, x.snd.snd.snd.snd.snd.fst, x.snd.snd.snd.snd.snd.snd.fst, x.snd.snd.snd.snd.snd.snd.snd.fst, x.snd.snd.snd.snd.snd.snd.snd.snd.fst, t2, t4, t6, x.snd.snd.snd.snd.snd.snd.snd.snd.snd.snd.snd.snd.fst, x.snd.snd.snd.snd.snd.snd.snd.snd.snd.snd.snd.snd.snd.fst, x.snd.snd.snd.snd.snd.snd.snd.snd.snd.snd.snd.snd.snd.snd.fst, wrap64 (40 * t7))))))))))) else some (Sum.inr (Sum.inl (x.fst, x.snd.fst, x.snd.snd.fst, x.snd.snd.snd.fst, x.snd.snd.snd.snd.fst, x.snd.snd.snd.snd.snd.fst, x.snd.snd.snd.snd.snd.snd.fst, x.snd.snd.snd.snd.snd.snd.snd.fst, x.snd.snd.snd.snd.snd.snd.snd.snd.fst, x.snd.snd.snd.snd.snd.snd.snd.snd.snd.fst, x.snd.snd.snd.snd.snd.snd.snd.snd.snd.snd.fst, x.snd.snd.snd.snd.snd.snd.snd.snd.snd.snd.snd.fst, x.snd.snd.snd.snd.snd.snd.snd.snd.snd.snd.snd.snd.fst, x.snd.snd.snd.snd.snd.snd.snd.snd.snd.snd.snd.snd.snd.fst, x.snd.snd.snd.snd.snd.snd.snd.snd.snd.snd.snd.snd.snd.snd.fst, x.snd.snd.snd.snd.snd.snd.snd.snd.snd.snd.snd.snd.snd.snd.snd)))))
set_option maxRecDepth 100000 in
theorem plan_Fit.step0_eq (x : plan_Fit.X0) : (roundT Try.prog (ctOf tab_S0) noL 100000 plan_Fit.tm0 plan_Fit.tr0 0 plan_Fit.b0 (plan_Fit.encX0 x)).opt (leafD plan_Fit.decX0 plan_Fit.decY0) = plan_Fit.step0 x := by kernel_rfl
noncomputable def plan_Fit.lt : LTab := ltOf [(16, 0, plan_Fit.k0.lc plan_Fit.step0 plan_Fit.b0)]
theorem plan_Fit.lt_ok : LtOK Try.prog plan_Fit.lt := (ltOf_cons named mixed tab_S0_ok.ct noL_ok plan_Fit.k0_ok rfl plan_Fit.step0_eq ltOf_nil)
def plan_Fit.f (a0_0 : Int) (a0_1 : Int) (a0_2 : Int) (a0_3 : Int) (a0_4 : Int) (a0_5 : Int) (a0_6 : Int) (a0_7 : Int) (a0_8 : Int) (a0_9 : Int) (a0_10 : Int) (a0_11 : Int) (a0_12 : Int) (a0_13 : Int) (a0_14 : Int) (a0_15 : Int) : Option (Int × Int × Int × Int × Int × Int × Int × Int × Int × Int × Int × Int × Int × Int × Int × Int × Int) :=
  ((plan_look_known.f a0_0 a0_1 1 0 0 a0_5 a0_6 a0_7 a0_8 0 0 0 a0_12 a0_13 a0_14 0).bind fun t0 => (if (!t0) = true then some (0, 0, 0, 0, 0, 0, 0, 0, 0, 0, 0, 0, 0, 0, 0, 0, 71) else ((plan_look_queue.f a0_0 a0_1 1 0 0 a0_5 a0_6 a0_7 a0_8 0 0 0 a0_12 a0_13 a0_14 0).bind fun t1 => (if (!t1) = true then some (0, 0, 0, 0, 0, 0, 0, 0, 0, 0, 0, 0, 0, 0, 0, 0, 71) else ((plan_look_leastPi.f a0_0 a0_1 1 0 0 a0_5 a0_6 a0_7 a0_8 0 0 0 a0_12 a0_13 a0_14 0).bind fun t2 => ((plan_look_leastWindow.f a0_0 a0_1 1 0 0 a0_5 a0_6 a0_7 a0_8 t2 0 0 a0_12 a0_13 a0_14 0).bind fun t3 => ((plan_look_leastCap.f a0_0 a0_1 1 0 t3 a0_5 a0_6 a0_7 a0_8 t2 0 0 a0_12 a0_13 a0_14 0).bind fun t4 => ((plan_look_leastOff.f a0_0 a0_1 1 0 t3 a0_5 a0_6 a0_7 a0_8 t2 t4 0 a0_12 a0_13 a0_14 0).bind fun t5 => ((plan_look_leastDelta.f a0_0 a0_1 1 t5 t3 a0_5 a0_6 a0_7 a0_8 t2 t4 0 a0_12 a0_13 a0_14 0).bind fun t6 => ((plan_look_round.f a0_0 a0_1 1 t5 t3 a0_5 a0_6 a0_7 a0_8 t2 t4 t6 a0_12 a0_13 a0_14 0).bind fun t7 => ((guardEq plan_Fit.b0.loop plan_Fit.b0.loop (rounds plan_Fit.step0 (a0_0, a0_1, 1, t5, t3, a0_5, a0_6, a0_7, a0_8, t2, t4, t6, a0_12, a0_13, a0_14, wrap64 (40 * t7)))).bind fun t8 => (match t8 with | .inl x9 => ((plan_Fails.f x9.fst x9.snd.fst x9.snd.snd.fst x9.snd.snd.snd.fst x9.snd.snd.snd.snd.fst x9.snd.snd.snd.snd.snd.fst x9.snd.snd.snd.snd.snd.snd.fst x9.snd.snd.snd.snd.snd.snd.snd.fst x9.snd.snd.snd.snd.snd.snd.snd.snd.fst x9.snd.snd.snd.snd.snd.snd.snd.snd.snd.fst x9.snd.snd.snd.snd.snd.snd.snd.snd.snd.snd.fst x9.snd.snd.snd.snd.snd.snd.snd.snd.snd.snd.snd.fst x9.snd.snd.snd.snd.snd.snd.snd.snd.snd.snd.snd.snd.fst x9.snd.snd.snd.snd.snd.snd.snd.snd.snd.snd.snd.snd.snd.fst x9.snd.snd.snd.snd.snd.snd.snd.snd.snd.snd.snd.snd.snd.snd.fst x9.snd.snd.snd.snd.snd.snd.snd.snd.snd.snd.snd.snd.snd.snd.snd).bind fun t10 => (if t10 ≠ 0 then some (0, 0, 0, 0, 0, 0, 0, 0, 0, 0, 0, 0, 0, 0, 0, 0, 71) else some (x9.fst, x9.snd.fst, x9.snd.snd.fst, x9.snd.snd.snd.fst, x9.snd.snd.snd.snd.fst, x9.snd.snd.snd.snd.snd.fst, x9.snd.snd.snd.snd.snd.snd.fst, x9.snd.snd.snd.snd.snd.snd.snd.fst, x9.snd.snd.snd.snd.snd.snd.snd.snd.fst, x9.snd.snd.snd.snd.snd.snd.snd.snd.snd.fst, x9.snd.snd.snd.snd.snd.snd.snd.snd.snd.snd.fst, x9.snd.snd.snd.snd.snd.snd.snd.snd.snd.snd.snd.fst, x9.snd.snd.snd.snd.snd.snd.snd.snd.snd.snd.snd.snd.fst, x9.snd.snd.snd.snd.snd.snd.snd.snd.snd.snd.snd.snd.snd.fst, x9.snd.snd.snd.snd.snd.snd.snd.snd.snd.snd.snd.snd.snd.snd.fst, x9.snd.snd.snd.snd.snd.snd.snd.snd.snd.snd.snd.snd.snd.snd.snd, 0))) | .inr y9 => some (0, 0, 0, 0, 0, 0, 0, 0, 0, 0, 0, 0, 0, 0, 0, 0, 71)))))))))))))
set_option maxRecDepth 100000 in
theorem plan_Fit.calls (a0_0 : Int) (a0_1 : Int) (a0_2 : Int) (a0_3 : Int) (a0_4 : Int) (a0_5 : Int) (a0_6 : Int) (a0_7 : Int) (a0_8 : Int) (a0_9 : Int) (a0_10 : Int) (a0_11 : Int) (a0_12 : Int) (a0_13 : Int) (a0_14 : Int) (a0_15 : Int) (r1 : Int) (r2 : Int) (r3 : Int) (r4 : Int) (r5 : Int) (r6 : Int) (r7 : Int) (r8 : Int) (r9 : Int) (r10 : Int) (r11 : Int) (r12 : Int) (r13 : Int) (r14 : Int) (r15 : Int) (r16 : Int) (r17 : Int) (w : World) (h : plan_Fit.f a0_0 a0_1 a0_2 a0_3 a0_4 a0_5 a0_6 a0_7 a0_8 a0_9 a0_10 a0_11 a0_12 a0_13 a0_14 a0_15 = some (r1, r2, r3, r4, r5, r6, r7, r8, r9, r10, r11, r12, r13, r14, r15, r16, r17)) :
    Calls Try.prog 16 #[.agg #[.int .i64 a0_0, .int .i64 a0_1, .int .i64 a0_2, .int .i64 a0_3, .int .i64 a0_4, .int .i64 a0_5, .int .i64 a0_6, .int .i64 a0_7, .int .i64 a0_8, .int .i64 a0_9, .int .i64 a0_10, .int .i64 a0_11, .int .i64 a0_12, .int .i64 a0_13, .int .i64 a0_14, .int .i64 a0_15]] w fun e w' => e = .returned (.tuple #[.agg #[.int .i64 r1, .int .i64 r2, .int .i64 r3, .int .i64 r4, .int .i64 r5, .int .i64 r6, .int .i64 r7, .int .i64 r8, .int .i64 r9, .int .i64 r10, .int .i64 r11, .int .i64 r12, .int .i64 r13, .int .i64 r14, .int .i64 r15, .int .i64 r16], .int .i64 r17]) ∧ Below w.heap.size w w' := by
  have ht : (walk Try.prog (ctOf tab_S0) plan_Fit.lt 100000 16 [.agg [.int .i64 (.s a0_0), .int .i64 (.s a0_1), .int .i64 (.s a0_2), .int .i64 (.s a0_3), .int .i64 (.s a0_4), .int .i64 (.s a0_5), .int .i64 (.s a0_6), .int .i64 (.s a0_7), .int .i64 (.s a0_8), .int .i64 (.s a0_9), .int .i64 (.s a0_10), .int .i64 (.s a0_11), .int .i64 (.s a0_12), .int .i64 (.s a0_13), .int .i64 (.s a0_14), .int .i64 (.s a0_15)]] [] 0).opt r_i64x16_i64.dec = plan_Fit.f a0_0 a0_1 a0_2 a0_3 a0_4 a0_5 a0_6 a0_7 a0_8 a0_9 a0_10 a0_11 a0_12 a0_13 a0_14 a0_15 := by kernel_rfl
  exact calls_of named mixed tab_S0_ok.ct plan_Fit.lt_ok ht h (by kernel_rfl) (by kernel_rfl) w fun _ _ _ _ _ hd hx => r_i64x16_i64.ok hd hx
noncomputable def plan_Fit.c : Entry := fun args _ => g_i64x16 args fun a0_0 a0_1 a0_2 a0_3 a0_4 a0_5 a0_6 a0_7 a0_8 a0_9 a0_10 a0_11 a0_12 a0_13 a0_14 a0_15 args => aN args (some { o := plan_Fit.f a0_0 a0_1 a0_2 a0_3 a0_4 a0_5 a0_6 a0_7 a0_8 a0_9 a0_10 a0_11 a0_12 a0_13 a0_14 a0_15, enc := r_i64x16_i64.enc })
theorem plan_Fit.ok : EntryOK Try.prog 16 plan_Fit.c := by
  intro args H c h r hr ρ hn w xs hx hrel
  unfold plan_Fit.c at h
  obtain ⟨a0_0, a0_1, a0_2, a0_3, a0_4, a0_5, a0_6, a0_7, a0_8, a0_9, a0_10, a0_11, a0_12, a0_13, a0_14, a0_15, xs, args, rfl, hx, h⟩ := g_i64x16_ok h hx
  obtain ⟨rfl, h⟩ := aN_ok h hx
  cases h
  obtain ⟨r1, r2, r3, r4, r5, r6, r7, r8, r9, r10, r11, r12, r13, r14, r15, r16, r17⟩ := r
  refine (plan_Fit.calls a0_0 a0_1 a0_2 a0_3 a0_4 a0_5 a0_6 a0_7 a0_8 a0_9 a0_10 a0_11 a0_12 a0_13 a0_14 a0_15 r1 r2 r3 r4 r5 r6 r7 r8 r9 r10 r11 r12 r13 r14 r15 r16 r17 w hr).mono ?_
  rintro e w' ⟨rfl, hb⟩
  exact ⟨_, rfl, r_i64x16_i64.enc_rel ρ (r1, r2, r3, r4, r5, r6, r7, r8, r9, r10, r11, r12, r13, r14, r15, r16, r17), hrel.below hb, Eff.of_below hb⟩
noncomputable def t_plan_Fit : List (Nat × Entry) := (16, plan_Fit.c) :: tab_S0
theorem t_plan_Fit_ok : TabOK Try.prog t_plan_Fit := TabOK.cons plan_Fit.ok tab_S0_ok
def vespersref07_numbers.f (a0_0 : Int) (a0_1 : Int) (a0_2 : Int) (a0_3 : Int) (a0_4 : Int) (a0_5 : Int) (a0_6 : Int) (a0_7 : Int) (a0_8 : Int) (a0_9 : Int) (a0_10 : Int) (a0_11 : Int) (a0_12 : Int) (a0_13 : Int) (a0_14 : Int) (a0_15 : Int) : Option (Int × Int × Int) :=
  (if a0_8 = 0 then none else some (wrap64 (wrap64 (a0_7 - a0_6) + 6), wrap64 (2 * wrap64 (wrap64 ((wrap64 (2 * wrap64 (a0_0 * a0_2))).tdiv a0_8) + 4)), wrap64 (2 * wrap64 (wrap64 (wrap64 (a0_7 - a0_6) + 6) + wrap64 (2 * wrap64 (wrap64 ((wrap64 (2 * wrap64 (a0_0 * a0_2))).tdiv a0_8) + 4))))))
set_option maxRecDepth 100000 in
theorem vespersref07_numbers.calls (a0_0 : Int) (a0_1 : Int) (a0_2 : Int) (a0_3 : Int) (a0_4 : Int) (a0_5 : Int) (a0_6 : Int) (a0_7 : Int) (a0_8 : Int) (a0_9 : Int) (a0_10 : Int) (a0_11 : Int) (a0_12 : Int) (a0_13 : Int) (a0_14 : Int) (a0_15 : Int) (r1 : Int) (r2 : Int) (r3 : Int) (w : World) (h : vespersref07_numbers.f a0_0 a0_1 a0_2 a0_3 a0_4 a0_5 a0_6 a0_7 a0_8 a0_9 a0_10 a0_11 a0_12 a0_13 a0_14 a0_15 = some (r1, r2, r3)) :
    Calls Try.prog 47 #[.agg #[.int .i64 a0_0, .int .i64 a0_1, .int .i64 a0_2, .int .i64 a0_3, .int .i64 a0_4, .int .i64 a0_5, .int .i64 a0_6, .int .i64 a0_7, .int .i64 a0_8, .int .i64 a0_9, .int .i64 a0_10, .int .i64 a0_11, .int .i64 a0_12, .int .i64 a0_13, .int .i64 a0_14, .int .i64 a0_15]] w fun e w' => e = .returned (.tuple #[.int .i64 r1, .int .i64 r2, .int .i64 r3]) ∧ Below w.heap.size w w' := by
  have ht : (walk Try.prog (ctOf t_plan_Fit) noL 100000 47 [.agg [.int .i64 (.s a0_0), .int .i64 (.s a0_1), .int .i64 (.s a0_2), .int .i64 (.s a0_3), .int .i64 (.s a0_4), .int .i64 (.s a0_5), .int .i64 (.s a0_6), .int .i64 (.s a0_7), .int .i64 (.s a0_8), .int .i64 (.s a0_9), .int .i64 (.s a0_10), .int .i64 (.s a0_11), .int .i64 (.s a0_12), .int .i64 (.s a0_13), .int .i64 (.s a0_14), .int .i64 (.s a0_15)]] [] 0).opt r_i64_i64_i64.dec = vespersref07_numbers.f a0_0 a0_1 a0_2 a0_3 a0_4 a0_5 a0_6 a0_7 a0_8 a0_9 a0_10 a0_11 a0_12 a0_13 a0_14 a0_15 := by kernel_rfl
  exact calls_of named mixed t_plan_Fit_ok.ct noL_ok ht h (by kernel_rfl) (by kernel_rfl) w fun _ _ _ _ _ hd hx => r_i64_i64_i64.ok hd hx
noncomputable def vespersref07_numbers.c : Entry := fun args _ => g_i64x16 args fun a0_0 a0_1 a0_2 a0_3 a0_4 a0_5 a0_6 a0_7 a0_8 a0_9 a0_10 a0_11 a0_12 a0_13 a0_14 a0_15 args => aN args (some { o := vespersref07_numbers.f a0_0 a0_1 a0_2 a0_3 a0_4 a0_5 a0_6 a0_7 a0_8 a0_9 a0_10 a0_11 a0_12 a0_13 a0_14 a0_15, enc := r_i64_i64_i64.enc })
theorem vespersref07_numbers.ok : EntryOK Try.prog 47 vespersref07_numbers.c := by
  intro args H c h r hr ρ hn w xs hx hrel
  unfold vespersref07_numbers.c at h
  obtain ⟨a0_0, a0_1, a0_2, a0_3, a0_4, a0_5, a0_6, a0_7, a0_8, a0_9, a0_10, a0_11, a0_12, a0_13, a0_14, a0_15, xs, args, rfl, hx, h⟩ := g_i64x16_ok h hx
  obtain ⟨rfl, h⟩ := aN_ok h hx
  cases h
  obtain ⟨r1, r2, r3⟩ := r
  refine (vespersref07_numbers.calls a0_0 a0_1 a0_2 a0_3 a0_4 a0_5 a0_6 a0_7 a0_8 a0_9 a0_10 a0_11 a0_12 a0_13 a0_14 a0_15 r1 r2 r3 w hr).mono ?_
  rintro e w' ⟨rfl, hb⟩
  exact ⟨_, rfl, r_i64_i64_i64.enc_rel ρ (r1, r2, r3), hrel.below hb, Eff.of_below hb⟩
noncomputable def t_vespersref07_numbers : List (Nat × Entry) := (47, vespersref07_numbers.c) :: t_plan_Fit
theorem t_vespersref07_numbers_ok : TabOK Try.prog t_vespersref07_numbers := TabOK.cons vespersref07_numbers.ok t_plan_Fit_ok
def vespersref07_first.f (a0_0 : Int) (a0_1 : Int) (a0_2 : Int) (a0_3 : Int) (a0_4 : Int) (a0_5 : Int) (a0_6 : Int) (a0_7 : Int) (a0_8 : Int) (a0_9 : Int) (a0_10 : Int) (a0_11 : Int) (a0_12 : Int) (a0_13 : Int) (a0_14 : Int) (a0_15 : Int) : Option Int :=
  (if a0_0 < 4 then some 1 else (if a0_0 > 16 then some 1 else (if a0_1 < 0 then some 1 else (if a0_1 > 16 then some 1 else (if a0_0 < wrap64 (wrap64 (2 * a0_1) + 2) then some 1 else (if a0_5 < 1 then some 2 else (if a0_5 > 1048576 then some 2 else (if a0_6 < 0 then some 2 else (if a0_7 < a0_6 then some 2 else (if a0_7 > 1048576 then some 2 else (if a0_2 < 1 then some 3 else (if a0_2 > 1048576 then some 3 else (if a0_8 < 4 then some 3 else (if a0_8 > 1048576 then some 3 else some 0))))))))))))))
set_option maxRecDepth 100000 in
theorem vespersref07_first.calls (a0_0 : Int) (a0_1 : Int) (a0_2 : Int) (a0_3 : Int) (a0_4 : Int) (a0_5 : Int) (a0_6 : Int) (a0_7 : Int) (a0_8 : Int) (a0_9 : Int) (a0_10 : Int) (a0_11 : Int) (a0_12 : Int) (a0_13 : Int) (a0_14 : Int) (a0_15 : Int) (r : Int) (w : World) (h : vespersref07_first.f a0_0 a0_1 a0_2 a0_3 a0_4 a0_5 a0_6 a0_7 a0_8 a0_9 a0_10 a0_11 a0_12 a0_13 a0_14 a0_15 = some r) :
    Calls Try.prog 46 #[.agg #[.int .i64 a0_0, .int .i64 a0_1, .int .i64 a0_2, .int .i64 a0_3, .int .i64 a0_4, .int .i64 a0_5, .int .i64 a0_6, .int .i64 a0_7, .int .i64 a0_8, .int .i64 a0_9, .int .i64 a0_10, .int .i64 a0_11, .int .i64 a0_12, .int .i64 a0_13, .int .i64 a0_14, .int .i64 a0_15]] w fun e w' => e = .returned (.int .i64 r) ∧ Below w.heap.size w w' := by
  have ht : (walk Try.prog (ctOf t_vespersref07_numbers) noL 100000 46 [.agg [.int .i64 (.s a0_0), .int .i64 (.s a0_1), .int .i64 (.s a0_2), .int .i64 (.s a0_3), .int .i64 (.s a0_4), .int .i64 (.s a0_5), .int .i64 (.s a0_6), .int .i64 (.s a0_7), .int .i64 (.s a0_8), .int .i64 (.s a0_9), .int .i64 (.s a0_10), .int .i64 (.s a0_11), .int .i64 (.s a0_12), .int .i64 (.s a0_13), .int .i64 (.s a0_14), .int .i64 (.s a0_15)]] [] 0).opt r_i64.dec = vespersref07_first.f a0_0 a0_1 a0_2 a0_3 a0_4 a0_5 a0_6 a0_7 a0_8 a0_9 a0_10 a0_11 a0_12 a0_13 a0_14 a0_15 := by kernel_rfl
  exact calls_of named mixed t_vespersref07_numbers_ok.ct noL_ok ht h (by kernel_rfl) (by kernel_rfl) w fun _ _ _ _ _ hd hx => r_i64.ok hd hx
noncomputable def vespersref07_first.c : Entry := fun args _ => g_i64x16 args fun a0_0 a0_1 a0_2 a0_3 a0_4 a0_5 a0_6 a0_7 a0_8 a0_9 a0_10 a0_11 a0_12 a0_13 a0_14 a0_15 args => aN args (some { o := vespersref07_first.f a0_0 a0_1 a0_2 a0_3 a0_4 a0_5 a0_6 a0_7 a0_8 a0_9 a0_10 a0_11 a0_12 a0_13 a0_14 a0_15, enc := r_i64.enc })
theorem vespersref07_first.ok : EntryOK Try.prog 46 vespersref07_first.c := by
  intro args H c h r hr ρ hn w xs hx hrel
  unfold vespersref07_first.c at h
  obtain ⟨a0_0, a0_1, a0_2, a0_3, a0_4, a0_5, a0_6, a0_7, a0_8, a0_9, a0_10, a0_11, a0_12, a0_13, a0_14, a0_15, xs, args, rfl, hx, h⟩ := g_i64x16_ok h hx
  obtain ⟨rfl, h⟩ := aN_ok h hx
  cases h
  refine (vespersref07_first.calls a0_0 a0_1 a0_2 a0_3 a0_4 a0_5 a0_6 a0_7 a0_8 a0_9 a0_10 a0_11 a0_12 a0_13 a0_14 a0_15 r w hr).mono ?_
  rintro e w' ⟨rfl, hb⟩
  exact ⟨_, rfl, r_i64.enc_rel ρ r, hrel.below hb, Eff.of_below hb⟩
noncomputable def t_vespersref07_first : List (Nat × Entry) := (46, vespersref07_first.c) :: t_vespersref07_numbers
theorem t_vespersref07_first_ok : TabOK Try.prog t_vespersref07_first := TabOK.cons vespersref07_first.ok t_vespersref07_numbers_ok
def vespersref07_Fails.f (a0_0 : Int) (a0_1 : Int) (a0_2 : Int) (a0_3 : Int) (a0_4 : Int) (a0_5 : Int) (a0_6 : Int) (a0_7 : Int) (a0_8 : Int) (a0_9 : Int) (a0_10 : Int) (a0_11 : Int) (a0_12 : Int) (a0_13 : Int) (a0_14 : Int) (a0_15 : Int) : Option Int :=
  ((vespersref07_first.f a0_0 a0_1 a0_2 a0_3 a0_4 a0_5 a0_6 a0_7 a0_8 a0_9 a0_10 a0_11 a0_12 a0_13 a0_14 a0_15).bind fun t0 => (if t0 > 0 then some t0 else ((vespersref07_numbers.f a0_0 a0_1 a0_2 a0_3 a0_4 a0_5 a0_6 a0_7 a0_8 a0_9 a0_10 a0_11 a0_12 a0_13 a0_14 a0_15).bind fun t1 => (if a0_9 < wrap64 (wrap64 (2 * wrap64 (t1.snd.snd + t1.snd.fst)) + t1.fst) then some 4 else (if a0_9 > 1048576 then some 4 else (if a0_4 < wrap64 (a0_9 + t1.fst) then some 5 else (if a0_4 > 1048576 then some 5 else (if a0_10 < wrap64 (wrap64 (t1.snd.snd + wrap64 (2 * t1.snd.fst)) + wrap64 (2 * t1.fst)) then some 6 else (if a0_10 > 1048576 then some 6 else (if a0_3 < wrap64 (wrap64 (a0_4 + a0_10) + a0_9) then some 7 else (if a0_3 > 1048576 then some 7 else (if a0_2 < wrap64 (wrap64 (wrap64 (wrap64 (wrap64 (wrap64 (a0_3 + a0_4) + wrap64 (2 * a0_7)) + wrap64 (2 * a0_5)) + a0_10) + a0_9) + 8) then some 8 else (if a0_12 < 1 then some 9 else (if a0_12 > 64 then some 9 else (if a0_13 < 1 then some 9 else (if a0_13 > 8 then some 9 else (if a0_14 < 1 then some 9 else (if a0_14 > 32 then some 9 else (if a0_13 = 0 then none else (if wrap64 (wrap64 (a0_12.tdiv a0_13) * a0_13) < a0_12 then (if a0_11 < wrap64 (wrap64 (wrap64 (wrap64 (wrap64 (a0_12.tdiv a0_13) + 1) + 3) * wrap64 (a0_0 * a0_2)) + wrap64 (2 * a0_9)) then some 10 else (if a0_11 > wrap64 (64 * wrap64 (a0_0 * a0_2)) then some 10 else (if a0_15 < wrap64 (40 * wrap64 (a0_0 * a0_2)) then some 11 else (if a0_15 > 2147483648 then some 11 else some 0)))) else (if a0_11 < wrap64 (wrap64 (wrap64 (wrap64 (a0_12.tdiv a0_13) + 3) * wrap64 (a0_0 * a0_2)) + wrap64 (2 * a0_9)) then some 10 else (if a0_11 > wrap64 (64 * wrap64 (a0_0 * a0_2)) then some 10 else (if a0_15 < wrap64 (40 * wrap64 (a0_0 * a0_2)) then some 11 else (if a0_15 > 2147483648 then some 11 else some 0))))))))))))))))))))))))
set_option maxRecDepth 100000 in
theorem vespersref07_Fails.calls (a0_0 : Int) (a0_1 : Int) (a0_2 : Int) (a0_3 : Int) (a0_4 : Int) (a0_5 : Int) (a0_6 : Int) (a0_7 : Int) (a0_8 : Int) (a0_9 : Int) (a0_10 : Int) (a0_11 : Int) (a0_12 : Int) (a0_13 : Int) (a0_14 : Int) (a0_15 : Int) (r : Int) (w : World) (h : vespersref07_Fails.f a0_0 a0_1 a0_2 a0_3 a0_4 a0_5 a0_6 a0_7 a0_8 a0_9 a0_10 a0_11 a0_12 a0_13 a0_14 a0_15 = some r) :
    Calls Try.prog 11 #[.agg #[.int .i64 a0_0, .int .i64 a0_1, .int .i64 a0_2, .int .i64 a0_3, .int .i64 a0_4, .int .i64 a0_5, .int .i64 a0_6, .int .i64 a0_7, .int .i64 a0_8, .int .i64 a0_9, .int .i64 a0_10, .int .i64 a0_11, .int .i64 a0_12, .int .i64 a0_13, .int .i64 a0_14, .int .i64 a0_15]] w fun e w' => e = .returned (.int .i64 r) ∧ Below w.heap.size w w' := by
  have ht : (walk Try.prog (ctOf t_vespersref07_first) noL 100000 11 [.agg [.int .i64 (.s a0_0), .int .i64 (.s a0_1), .int .i64 (.s a0_2), .int .i64 (.s a0_3), .int .i64 (.s a0_4), .int .i64 (.s a0_5), .int .i64 (.s a0_6), .int .i64 (.s a0_7), .int .i64 (.s a0_8), .int .i64 (.s a0_9), .int .i64 (.s a0_10), .int .i64 (.s a0_11), .int .i64 (.s a0_12), .int .i64 (.s a0_13), .int .i64 (.s a0_14), .int .i64 (.s a0_15)]] [] 0).opt r_i64.dec = vespersref07_Fails.f a0_0 a0_1 a0_2 a0_3 a0_4 a0_5 a0_6 a0_7 a0_8 a0_9 a0_10 a0_11 a0_12 a0_13 a0_14 a0_15 := by kernel_rfl
  exact calls_of named mixed t_vespersref07_first_ok.ct noL_ok ht h (by kernel_rfl) (by kernel_rfl) w fun _ _ _ _ _ hd hx => r_i64.ok hd hx
noncomputable def vespersref07_Fails.c : Entry := fun args _ => g_i64x16 args fun a0_0 a0_1 a0_2 a0_3 a0_4 a0_5 a0_6 a0_7 a0_8 a0_9 a0_10 a0_11 a0_12 a0_13 a0_14 a0_15 args => aN args (some { o := vespersref07_Fails.f a0_0 a0_1 a0_2 a0_3 a0_4 a0_5 a0_6 a0_7 a0_8 a0_9 a0_10 a0_11 a0_12 a0_13 a0_14 a0_15, enc := r_i64.enc })
theorem vespersref07_Fails.ok : EntryOK Try.prog 11 vespersref07_Fails.c := by
  intro args H c h r hr ρ hn w xs hx hrel
  unfold vespersref07_Fails.c at h
  obtain ⟨a0_0, a0_1, a0_2, a0_3, a0_4, a0_5, a0_6, a0_7, a0_8, a0_9, a0_10, a0_11, a0_12, a0_13, a0_14, a0_15, xs, args, rfl, hx, h⟩ := g_i64x16_ok h hx
  obtain ⟨rfl, h⟩ := aN_ok h hx
  cases h
  refine (vespersref07_Fails.calls a0_0 a0_1 a0_2 a0_3 a0_4 a0_5 a0_6 a0_7 a0_8 a0_9 a0_10 a0_11 a0_12 a0_13 a0_14 a0_15 r w hr).mono ?_
  rintro e w' ⟨rfl, hb⟩
  exact ⟨_, rfl, r_i64.enc_rel ρ r, hrel.below hb, Eff.of_below hb⟩
noncomputable def t_vespersref07_Fails : List (Nat × Entry) := (11, vespersref07_Fails.c) :: t_vespersref07_first
theorem t_vespersref07_Fails_ok : TabOK Try.prog t_vespersref07_Fails := TabOK.cons vespersref07_Fails.ok t_vespersref07_first_ok
def vespersref07_Check.f (a0_0 : Int) (a0_1 : Int) (a0_2 : Int) (a0_3 : Int) (a0_4 : Int) (a0_5 : Int) (a0_6 : Int) (a0_7 : Int) (a0_8 : Int) (a0_9 : Int) (a0_10 : Int) (a0_11 : Int) (a0_12 : Int) (a0_13 : Int) (a0_14 : Int) (a0_15 : Int) : Option Int :=
  ((vespersref07_Fails.f a0_0 a0_1 a0_2 a0_3 a0_4 a0_5 a0_6 a0_7 a0_8 a0_9 a0_10 a0_11 a0_12 a0_13 a0_14 a0_15).bind fun t0 => (if t0 > 0 then some 70 else some 0))
set_option maxRecDepth 100000 in
theorem vespersref07_Check.calls (a0_0 : Int) (a0_1 : Int) (a0_2 : Int) (a0_3 : Int) (a0_4 : Int) (a0_5 : Int) (a0_6 : Int) (a0_7 : Int) (a0_8 : Int) (a0_9 : Int) (a0_10 : Int) (a0_11 : Int) (a0_12 : Int) (a0_13 : Int) (a0_14 : Int) (a0_15 : Int) (r : Int) (w : World) (h : vespersref07_Check.f a0_0 a0_1 a0_2 a0_3 a0_4 a0_5 a0_6 a0_7 a0_8 a0_9 a0_10 a0_11 a0_12 a0_13 a0_14 a0_15 = some r) :
    Calls Try.prog 13 #[.agg #[.int .i64 a0_0, .int .i64 a0_1, .int .i64 a0_2, .int .i64 a0_3, .int .i64 a0_4, .int .i64 a0_5, .int .i64 a0_6, .int .i64 a0_7, .int .i64 a0_8, .int .i64 a0_9, .int .i64 a0_10, .int .i64 a0_11, .int .i64 a0_12, .int .i64 a0_13, .int .i64 a0_14, .int .i64 a0_15]] w fun e w' => e = .returned (.int .i64 r) ∧ Below w.heap.size w w' := by
  have ht : (walk Try.prog (ctOf t_vespersref07_Fails) noL 100000 13 [.agg [.int .i64 (.s a0_0), .int .i64 (.s a0_1), .int .i64 (.s a0_2), .int .i64 (.s a0_3), .int .i64 (.s a0_4), .int .i64 (.s a0_5), .int .i64 (.s a0_6), .int .i64 (.s a0_7), .int .i64 (.s a0_8), .int .i64 (.s a0_9), .int .i64 (.s a0_10), .int .i64 (.s a0_11), .int .i64 (.s a0_12), .int .i64 (.s a0_13), .int .i64 (.s a0_14), .int .i64 (.s a0_15)]] [] 0).opt r_i64.dec = vespersref07_Check.f a0_0 a0_1 a0_2 a0_3 a0_4 a0_5 a0_6 a0_7 a0_8 a0_9 a0_10 a0_11 a0_12 a0_13 a0_14 a0_15 := by kernel_rfl
  exact calls_of named mixed t_vespersref07_Fails_ok.ct noL_ok ht h (by kernel_rfl) (by kernel_rfl) w fun _ _ _ _ _ hd hx => r_i64.ok hd hx
noncomputable def vespersref07_Check.c : Entry := fun args _ => g_i64x16 args fun a0_0 a0_1 a0_2 a0_3 a0_4 a0_5 a0_6 a0_7 a0_8 a0_9 a0_10 a0_11 a0_12 a0_13 a0_14 a0_15 args => aN args (some { o := vespersref07_Check.f a0_0 a0_1 a0_2 a0_3 a0_4 a0_5 a0_6 a0_7 a0_8 a0_9 a0_10 a0_11 a0_12 a0_13 a0_14 a0_15, enc := r_i64.enc })
theorem vespersref07_Check.ok : EntryOK Try.prog 13 vespersref07_Check.c := by
  intro args H c h r hr ρ hn w xs hx hrel
  unfold vespersref07_Check.c at h
  obtain ⟨a0_0, a0_1, a0_2, a0_3, a0_4, a0_5, a0_6, a0_7, a0_8, a0_9, a0_10, a0_11, a0_12, a0_13, a0_14, a0_15, xs, args, rfl, hx, h⟩ := g_i64x16_ok h hx
  obtain ⟨rfl, h⟩ := aN_ok h hx
  cases h
  refine (vespersref07_Check.calls a0_0 a0_1 a0_2 a0_3 a0_4 a0_5 a0_6 a0_7 a0_8 a0_9 a0_10 a0_11 a0_12 a0_13 a0_14 a0_15 r w hr).mono ?_
  rintro e w' ⟨rfl, hb⟩
  exact ⟨_, rfl, r_i64.enc_rel ρ r, hrel.below hb, Eff.of_below hb⟩
noncomputable def t_vespersref07_Check : List (Nat × Entry) := (13, vespersref07_Check.c) :: t_vespersref07_Fails
theorem t_vespersref07_Check_ok : TabOK Try.prog t_vespersref07_Check := TabOK.cons vespersref07_Check.ok t_vespersref07_Fails_ok
def vespersref07_Round.f (a0_0 : Int) (a0_1 : Int) (a0_2 : Int) (a0_3 : Int) (a0_4 : Int) (a0_5 : Int) (a0_6 : Int) (a0_7 : Int) (a0_8 : Int) (a0_9 : Int) (a0_10 : Int) (a0_11 : Int) (a0_12 : Int) (a0_13 : Int) (a0_14 : Int) (a0_15 : Int) : Option Int :=
  ((vespersref07_first.f a0_0 a0_1 a0_2 a0_3 a0_4 a0_5 a0_6 a0_7 a0_8 a0_9 a0_10 a0_11 a0_12 a0_13 a0_14 a0_15).bind fun t0 => (if t0 > 0 then some 0 else some (wrap64 (a0_0 * a0_2))))
set_option maxRecDepth 100000 in
theorem vespersref07_Round.calls (a0_0 : Int) (a0_1 : Int) (a0_2 : Int) (a0_3 : Int) (a0_4 : Int) (a0_5 : Int) (a0_6 : Int) (a0_7 : Int) (a0_8 : Int) (a0_9 : Int) (a0_10 : Int) (a0_11 : Int) (a0_12 : Int) (a0_13 : Int) (a0_14 : Int) (a0_15 : Int) (r : Int) (w : World) (h : vespersref07_Round.f a0_0 a0_1 a0_2 a0_3 a0_4 a0_5 a0_6 a0_7 a0_8 a0_9 a0_10 a0_11 a0_12 a0_13 a0_14 a0_15 = some r) :
    Calls Try.prog 15 #[.agg #[.int .i64 a0_0, .int .i64 a0_1, .int .i64 a0_2, .int .i64 a0_3, .int .i64 a0_4, .int .i64 a0_5, .int .i64 a0_6, .int .i64 a0_7, .int .i64 a0_8, .int .i64 a0_9, .int .i64 a0_10, .int .i64 a0_11, .int .i64 a0_12, .int .i64 a0_13, .int .i64 a0_14, .int .i64 a0_15]] w fun e w' => e = .returned (.int .i64 r) ∧ Below w.heap.size w w' := by
  have ht : (walk Try.prog (ctOf t_vespersref07_Check) noL 100000 15 [.agg [.int .i64 (.s a0_0), .int .i64 (.s a0_1), .int .i64 (.s a0_2), .int .i64 (.s a0_3), .int .i64 (.s a0_4), .int .i64 (.s a0_5), .int .i64 (.s a0_6), .int .i64 (.s a0_7), .int .i64 (.s a0_8), .int .i64 (.s a0_9), .int .i64 (.s a0_10), .int .i64 (.s a0_11), .int .i64 (.s a0_12), .int .i64 (.s a0_13), .int .i64 (.s a0_14), .int .i64 (.s a0_15)]] [] 0).opt r_i64.dec = vespersref07_Round.f a0_0 a0_1 a0_2 a0_3 a0_4 a0_5 a0_6 a0_7 a0_8 a0_9 a0_10 a0_11 a0_12 a0_13 a0_14 a0_15 := by kernel_rfl
  exact calls_of named mixed t_vespersref07_Check_ok.ct noL_ok ht h (by kernel_rfl) (by kernel_rfl) w fun _ _ _ _ _ hd hx => r_i64.ok hd hx
noncomputable def vespersref07_Round.c : Entry := fun args _ => g_i64x16 args fun a0_0 a0_1 a0_2 a0_3 a0_4 a0_5 a0_6 a0_7 a0_8 a0_9 a0_10 a0_11 a0_12 a0_13 a0_14 a0_15 args => aN args (some { o := vespersref07_Round.f a0_0 a0_1 a0_2 a0_3 a0_4 a0_5 a0_6 a0_7 a0_8 a0_9 a0_10 a0_11 a0_12 a0_13 a0_14 a0_15, enc := r_i64.enc })
theorem vespersref07_Round.ok : EntryOK Try.prog 15 vespersref07_Round.c := by
  intro args H c h r hr ρ hn w xs hx hrel
  unfold vespersref07_Round.c at h
  obtain ⟨a0_0, a0_1, a0_2, a0_3, a0_4, a0_5, a0_6, a0_7, a0_8, a0_9, a0_10, a0_11, a0_12, a0_13, a0_14, a0_15, xs, args, rfl, hx, h⟩ := g_i64x16_ok h hx
  obtain ⟨rfl, h⟩ := aN_ok h hx
  cases h
  refine (vespersref07_Round.calls a0_0 a0_1 a0_2 a0_3 a0_4 a0_5 a0_6 a0_7 a0_8 a0_9 a0_10 a0_11 a0_12 a0_13 a0_14 a0_15 r w hr).mono ?_
  rintro e w' ⟨rfl, hb⟩
  exact ⟨_, rfl, r_i64.enc_rel ρ r, hrel.below hb, Eff.of_below hb⟩
noncomputable def t_vespersref07_Round : List (Nat × Entry) := (15, vespersref07_Round.c) :: t_vespersref07_Check
theorem t_vespersref07_Round_ok : TabOK Try.prog t_vespersref07_Round := TabOK.cons vespersref07_Round.ok t_vespersref07_Check_ok
def vespersref07_Numbers.f (a0_0 : Int) (a0_1 : Int) (a0_2 : Int) (a0_3 : Int) (a0_4 : Int) (a0_5 : Int) (a0_6 : Int) (a0_7 : Int) (a0_8 : Int) (a0_9 : Int) (a0_10 : Int) (a0_11 : Int) (a0_12 : Int) (a0_13 : Int) (a0_14 : Int) (a0_15 : Int) : Option (Int × Int × Int) :=
  ((vespersref07_first.f a0_0 a0_1 a0_2 a0_3 a0_4 a0_5 a0_6 a0_7 a0_8 a0_9 a0_10 a0_11 a0_12 a0_13 a0_14 a0_15).bind fun t0 => (if t0 > 0 then some (0, 0, 0) else ((vespersref07_numbers.f a0_0 a0_1 a0_2 a0_3 a0_4 a0_5 a0_6 a0_7 a0_8 a0_9 a0_10 a0_11 a0_12 a0_13 a0_14 a0_15).bind fun t1 => some (t1.fst, t1.snd.fst, t1.snd.snd))))
set_option maxRecDepth 100000 in
theorem vespersref07_Numbers.calls (a0_0 : Int) (a0_1 : Int) (a0_2 : Int) (a0_3 : Int) (a0_4 : Int) (a0_5 : Int) (a0_6 : Int) (a0_7 : Int) (a0_8 : Int) (a0_9 : Int) (a0_10 : Int) (a0_11 : Int) (a0_12 : Int) (a0_13 : Int) (a0_14 : Int) (a0_15 : Int) (r1 : Int) (r2 : Int) (r3 : Int) (w : World) (h : vespersref07_Numbers.f a0_0 a0_1 a0_2 a0_3 a0_4 a0_5 a0_6 a0_7 a0_8 a0_9 a0_10 a0_11 a0_12 a0_13 a0_14 a0_15 = some (r1, r2, r3)) :
    Calls Try.prog 9 #[.agg #[.int .i64 a0_0, .int .i64 a0_1, .int .i64 a0_2, .int .i64 a0_3, .int .i64 a0_4, .int .i64 a0_5, .int .i64 a0_6, .int .i64 a0_7, .int .i64 a0_8, .int .i64 a0_9, .int .i64 a0_10, .int .i64 a0_11, .int .i64 a0_12, .int .i64 a0_13, .int .i64 a0_14, .int .i64 a0_15]] w fun e w' => e = .returned (.tuple #[.int .i64 r1, .int .i64 r2, .int .i64 r3]) ∧ Below w.heap.size w w' := by
  have ht : (walk Try.prog (ctOf t_vespersref07_Round) noL 100000 9 [.agg [.int .i64 (.s a0_0), .int .i64 (.s a0_1), .int .i64 (.s a0_2), .int .i64 (.s a0_3), .int .i64 (.s a0_4), .int .i64 (.s a0_5), .int .i64 (.s a0_6), .int .i64 (.s a0_7), .int .i64 (.s a0_8), .int .i64 (.s a0_9), .int .i64 (.s a0_10), .int .i64 (.s a0_11), .int .i64 (.s a0_12), .int .i64 (.s a0_13), .int .i64 (.s a0_14), .int .i64 (.s a0_15)]] [] 0).opt r_i64_i64_i64.dec = vespersref07_Numbers.f a0_0 a0_1 a0_2 a0_3 a0_4 a0_5 a0_6 a0_7 a0_8 a0_9 a0_10 a0_11 a0_12 a0_13 a0_14 a0_15 := by kernel_rfl
  exact calls_of named mixed t_vespersref07_Round_ok.ct noL_ok ht h (by kernel_rfl) (by kernel_rfl) w fun _ _ _ _ _ hd hx => r_i64_i64_i64.ok hd hx
noncomputable def vespersref07_Numbers.c : Entry := fun args _ => g_i64x16 args fun a0_0 a0_1 a0_2 a0_3 a0_4 a0_5 a0_6 a0_7 a0_8 a0_9 a0_10 a0_11 a0_12 a0_13 a0_14 a0_15 args => aN args (some { o := vespersref07_Numbers.f a0_0 a0_1 a0_2 a0_3 a0_4 a0_5 a0_6 a0_7 a0_8 a0_9 a0_10 a0_11 a0_12 a0_13 a0_14 a0_15, enc := r_i64_i64_i64.enc })
theorem vespersref07_Numbers.ok : EntryOK Try.prog 9 vespersref07_Numbers.c := by
  intro args H c h r hr ρ hn w xs hx hrel
  unfold vespersref07_Numbers.c at h
  obtain ⟨a0_0, a0_1, a0_2, a0_3, a0_4, a0_5, a0_6, a0_7, a0_8, a0_9, a0_10, a0_11, a0_12, a0_13, a0_14, a0_15, xs, args, rfl, hx, h⟩ := g_i64x16_ok h hx
  obtain ⟨rfl, h⟩ := aN_ok h hx
  cases h
  obtain ⟨r1, r2, r3⟩ := r
  refine (vespersref07_Numbers.calls a0_0 a0_1 a0_2 a0_3 a0_4 a0_5 a0_6 a0_7 a0_8 a0_9 a0_10 a0_11 a0_12 a0_13 a0_14 a0_15 r1 r2 r3 w hr).mono ?_
  rintro e w' ⟨rfl, hb⟩
  exact ⟨_, rfl, r_i64_i64_i64.enc_rel ρ (r1, r2, r3), hrel.below hb, Eff.of_below hb⟩
noncomputable def t_vespersref07_Numbers : List (Nat × Entry) := (9, vespersref07_Numbers.c) :: t_vespersref07_Round
theorem t_vespersref07_Numbers_ok : TabOK Try.prog t_vespersref07_Numbers := TabOK.cons vespersref07_Numbers.ok t_vespersref07_Round_ok
def r_i64x16.dec : AV → Heap → Nat → Option (Int × Int × Int × Int × Int × Int × Int × Int × Int × Int × Int × Int × Int × Int × Int × Int)
  | .agg [x0, x1, x2, x3, x4, x5, x6, x7, x8, x9, x10, x11, x12, x13, x14, x15], _, _ => (dI .i64 x0).bind fun n0 => (dI .i64 x1).bind fun n1 => (dI .i64 x2).bind fun n2 => (dI .i64 x3).bind fun n3 => (dI .i64 x4).bind fun n4 => (dI .i64 x5).bind fun n5 => (dI .i64 x6).bind fun n6 => (dI .i64 x7).bind fun n7 => (dI .i64 x8).bind fun n8 => (dI .i64 x9).bind fun n9 => (dI .i64 x10).bind fun n10 => (dI .i64 x11).bind fun n11 => (dI .i64 x12).bind fun n12 => (dI .i64 x13).bind fun n13 => (dI .i64 x14).bind fun n14 => (dI .i64 x15).bind fun n15 => some (n0, n1, n2, n3, n4, n5, n6, n7, n8, n9, n10, n11, n12, n13, n14, n15)
  | _, _, _ => none
def r_i64x16.enc (r : Int × Int × Int × Int × Int × Int × Int × Int × Int × Int × Int × Int × Int × Int × Int × Int) : AV := .agg [.int .i64 (.s r.1), .int .i64 (.s r.2.1), .int .i64 (.s r.2.2.1), .int .i64 (.s r.2.2.2.1), .int .i64 (.s r.2.2.2.2.1), .int .i64 (.s r.2.2.2.2.2.1), .int .i64 (.s r.2.2.2.2.2.2.1), .int .i64 (.s r.2.2.2.2.2.2.2.1), .int .i64 (.s r.2.2.2.2.2.2.2.2.1), .int .i64 (.s r.2.2.2.2.2.2.2.2.2.1), .int .i64 (.s r.2.2.2.2.2.2.2.2.2.2.1), .int .i64 (.s r.2.2.2.2.2.2.2.2.2.2.2.1), .int .i64 (.s r.2.2.2.2.2.2.2.2.2.2.2.2.1), .int .i64 (.s r.2.2.2.2.2.2.2.2.2.2.2.2.2.1), .int .i64 (.s r.2.2.2.2.2.2.2.2.2.2.2.2.2.2.1), .int .i64 (.s r.2.2.2.2.2.2.2.2.2.2.2.2.2.2.2)]
abbrev r_i64x16.val (r : Int × Int × Int × Int × Int × Int × Int × Int × Int × Int × Int × Int × Int × Int × Int × Int) : Value := .agg #[.int .i64 r.1, .int .i64 r.2.1, .int .i64 r.2.2.1, .int .i64 r.2.2.2.1, .int .i64 r.2.2.2.2.1, .int .i64 r.2.2.2.2.2.1, .int .i64 r.2.2.2.2.2.2.1, .int .i64 r.2.2.2.2.2.2.2.1, .int .i64 r.2.2.2.2.2.2.2.2.1, .int .i64 r.2.2.2.2.2.2.2.2.2.1, .int .i64 r.2.2.2.2.2.2.2.2.2.2.1, .int .i64 r.2.2.2.2.2.2.2.2.2.2.2.1, .int .i64 r.2.2.2.2.2.2.2.2.2.2.2.2.1, .int .i64 r.2.2.2.2.2.2.2.2.2.2.2.2.2.1, .int .i64 r.2.2.2.2.2.2.2.2.2.2.2.2.2.2.1, .int .i64 r.2.2.2.2.2.2.2.2.2.2.2.2.2.2.2]
theorem r_i64x16.enc_rel (ρ : Pl) (r : Int × Int × Int × Int × Int × Int × Int × Int × Int × Int × Int × Int × Int × Int × Int × Int) : (r_i64x16.enc r).rel ρ (r_i64x16.val r) := AV.flat_rel _ rfl
theorem r_i64x16.ok {v : AV} {H : Heap} {hn : Nat} {r : Int × Int × Int × Int × Int × Int × Int × Int × Int × Int × Int × Int × Int × Int × Int × Int} {ρ : Pl} {x : Value} (h : r_i64x16.dec v H hn = some r) (hx : v.rel ρ x) : x = r_i64x16.val r := by
  unfold r_i64x16.dec at h
  split at h
  · obtain ⟨n0, e0, h⟩ := Option.bind_eq_some_iff.1 h
    obtain ⟨n1, e1, h⟩ := Option.bind_eq_some_iff.1 h
    obtain ⟨n2, e2, h⟩ := Option.bind_eq_some_iff.1 h
    obtain ⟨n3, e3, h⟩ := Option.bind_eq_some_iff.1 h
    obtain ⟨n4, e4, h⟩ := Option.bind_eq_some_iff.1 h
    obtain ⟨n5, e5, h⟩ := Option.bind_eq_some_iff.1 h
    obtain ⟨n6, e6, h⟩ := Option.bind_eq_some_iff.1 h
    obtain ⟨n7, e7, h⟩ := Option.bind_eq_some_iff.1 h
    obtain ⟨n8, e8, h⟩ := Option.bind_eq_some_iff.1 h
    obtain ⟨n9, e9, h⟩ := Option.bind_eq_some_iff.1 h
    obtain ⟨n10, e10, h⟩ := Option.bind_eq_some_iff.1 h
    obtain ⟨n11, e11, h⟩ := Option.bind_eq_some_iff.1 h
    obtain ⟨n12, e12, h⟩ := Option.bind_eq_some_iff.1 h
    obtain ⟨n13, e13, h⟩ := Option.bind_eq_some_iff.1 h
    obtain ⟨n14, e14, h⟩ := Option.bind_eq_some_iff.1 h
    obtain ⟨n15, e15, h⟩ := Option.bind_eq_some_iff.1 h
    cases h
    obtain ⟨z, hx, rfl⟩ := hx
    obtain ⟨y1, y2, hy1, hx, rfl⟩ := hx
    obtain rfl := dI_ok e0 hy1
    obtain ⟨y3, y4, hy3, hx, rfl⟩ := hx
    obtain rfl := dI_ok e1 hy3
    obtain ⟨y5, y6, hy5, hx, rfl⟩ := hx
    obtain rfl := dI_ok e2 hy5
    obtain ⟨y7, y8, hy7, hx, rfl⟩ := hx
    obtain rfl := dI_ok e3 hy7
    obtain ⟨y9, y10, hy9, hx, rfl⟩ := hx
    obtain rfl := dI_ok e4 hy9
    obtain ⟨y11, y12, hy11, hx, rfl⟩ := hx
    obtain rfl := dI_ok e5 hy11
    obtain ⟨y13, y14, hy13, hx, rfl⟩ := hx
    obtain rfl := dI_ok e6 hy13
    obtain ⟨y15, y16, hy15, hx, rfl⟩ := hx
    obtain rfl := dI_ok e7 hy15
    obtain ⟨y17, y18, hy17, hx, rfl⟩ := hx
    obtain rfl := dI_ok e8 hy17
    obtain ⟨y19, y20, hy19, hx, rfl⟩ := hx
    obtain rfl := dI_ok e9 hy19
    obtain ⟨y21, y22, hy21, hx, rfl⟩ := hx
    obtain rfl := dI_ok e10 hy21
    obtain ⟨y23, y24, hy23, hx, rfl⟩ := hx
    obtain rfl := dI_ok e11 hy23
    obtain ⟨y25, y26, hy25, hx, rfl⟩ := hx
    obtain rfl := dI_ok e12 hy25
    obtain ⟨y27, y28, hy27, hx, rfl⟩ := hx
    obtain rfl := dI_ok e13 hy27
    obtain ⟨y29, y30, hy29, hx, rfl⟩ := hx
    obtain rfl := dI_ok e14 hy29
    obtain ⟨y31, y32, hy31, hx, rfl⟩ := hx
    obtain rfl := dI_ok e15 hy31
    obtain rfl := (show _ = [] from hx)
    rfl
  · cases h
def vespersref07_With.f (a0_0 : Int) (a0_1 : Int) (a0_2 : Int) (a0_3 : Int) (a0_4 : Int) (a0_5 : Int) (a0_6 : Int) (a0_7 : Int) (a0_8 : Int) (a0_9 : Int) (a0_10 : Int) (a0_11 : Int) (a0_12 : Int) (a0_13 : Int) (a0_14 : Int) (a0_15 : Int) (a1 : Int) : Option (Int × Int × Int × Int × Int × Int × Int × Int × Int × Int × Int × Int × Int × Int × Int × Int) :=
  ((vespersref07_numbers.f a0_0 a0_1 a1 0 0 a0_5 a0_6 a0_7 a0_8 0 0 0 a0_12 a0_13 a0_14 0).bind fun t0 => (if a0_13 = 0 then none else (if wrap64 (wrap64 (a0_12.tdiv a0_13) * a0_13) < a0_12 then some (a0_0, a0_1, a1, wrap64 (wrap64 (wrap64 (wrap64 (wrap64 (2 * wrap64 (t0.snd.snd + t0.snd.fst)) + t0.fst) + t0.fst) + wrap64 (wrap64 (t0.snd.snd + wrap64 (2 * t0.snd.fst)) + wrap64 (2 * t0.fst))) + wrap64 (wrap64 (2 * wrap64 (t0.snd.snd + t0.snd.fst)) + t0.fst)), wrap64 (wrap64 (wrap64 (2 * wrap64 (t0.snd.snd + t0.snd.fst)) + t0.fst) + t0.fst), a0_5, a0_6, a0_7, a0_8, wrap64 (wrap64 (2 * wrap64 (t0.snd.snd + t0.snd.fst)) + t0.fst), wrap64 (wrap64 (t0.snd.snd + wrap64 (2 * t0.snd.fst)) + wrap64 (2 * t0.fst)), wrap64 (wrap64 (wrap64 (wrap64 (wrap64 (a0_12.tdiv a0_13) + 1) + 3) * wrap64 (a0_0 * a1)) + wrap64 (2 * wrap64 (wrap64 (2 * wrap64 (t0.snd.snd + t0.snd.fst)) + t0.fst))), a0_12, a0_13, a0_14, wrap64 (40 * wrap64 (a0_0 * a1))) else some (a0_0, a0_1, a1, wrap64 (wrap64 (wrap64 (wrap64 (wrap64 (2 * wrap64 (t0.snd.snd + t0.snd.fst)) + t0.fst) + t0.fst) + wrap64 (wrap64 (t0.snd.snd + wrap64 (2 * t0.snd.fst)) + wrap64 (2 * t0.fst))) + wrap64 (wrap64 (2 * wrap64 (t0.snd.snd + t0.snd.fst)) + t0.fst)), wrap64 (wrap64 (wrap64 (2 * wrap64 (t0.snd.snd + t0.snd.fst)) + t0.fst) + t0.fst), a0_5, a0_6, a0_7, a0_8, wrap64 (wrap64 (2 * wrap64 (t0.snd.snd + t0.snd.fst)) + t0.fst), wrap64 (wrap64 (t0.snd.snd + wrap64 (2 * t0.snd.fst)) + wrap64 (2 * t0.fst)), wrap64 (wrap64 (wrap64 (wrap64 (a0_12.tdiv a0_13) + 3) * wrap64 (a0_0 * a1)) + wrap64 (2 * wrap64 (wrap64 (2 * wrap64 (t0.snd.snd + t0.snd.fst)) + t0.fst))), a0_12, a0_13, a0_14, wrap64 (40 * wrap64 (a0_0 * a1))))))
set_option maxRecDepth 100000 in
theorem vespersref07_With.calls (a0_0 : Int) (a0_1 : Int) (a0_2 : Int) (a0_3 : Int) (a0_4 : Int) (a0_5 : Int) (a0_6 : Int) (a0_7 : Int) (a0_8 : Int) (a0_9 : Int) (a0_10 : Int) (a0_11 : Int) (a0_12 : Int) (a0_13 : Int) (a0_14 : Int) (a0_15 : Int) (a1 : Int) (r1 : Int) (r2 : Int) (r3 : Int) (r4 : Int) (r5 : Int) (r6 : Int) (r7 : Int) (r8 : Int) (r9 : Int) (r10 : Int) (r11 : Int) (r12 : Int) (r13 : Int) (r14 : Int) (r15 : Int) (r16 : Int) (w : World) (h : vespersref07_With.f a0_0 a0_1 a0_2 a0_3 a0_4 a0_5 a0_6 a0_7 a0_8 a0_9 a0_10 a0_11 a0_12 a0_13 a0_14 a0_15 a1 = some (r1, r2, r3, r4, r5, r6, r7, r8, r9, r10, r11, r12, r13, r14, r15, r16)) :
    Calls Try.prog 41 #[.agg #[.int .i64 a0_0, .int .i64 a0_1, .int .i64 a0_2, .int .i64 a0_3, .int .i64 a0_4, .int .i64 a0_5, .int .i64 a0_6, .int .i64 a0_7, .int .i64 a0_8, .int .i64 a0_9, .int .i64 a0_10, .int .i64 a0_11, .int .i64 a0_12, .int .i64 a0_13, .int .i64 a0_14, .int .i64 a0_15], .int .i64 a1] w fun e w' => e = .returned (.agg #[.int .i64 r1, .int .i64 r2, .int .i64 r3, .int .i64 r4, .int .i64 r5, .int .i64 r6, .int .i64 r7, .int .i64 r8, .int .i64 r9, .int .i64 r10, .int .i64 r11, .int .i64 r12, .int .i64 r13, .int .i64 r14, .int .i64 r15, .int .i64 r16]) ∧ Below w.heap.size w w' := by
  have ht : (walk Try.prog (ctOf t_vespersref07_Numbers) noL 100000 41 [.agg [.int .i64 (.s a0_0), .int .i64 (.s a0_1), .int .i64 (.s a0_2), .int .i64 (.s a0_3), .int .i64 (.s a0_4), .int .i64 (.s a0_5), .int .i64 (.s a0_6), .int .i64 (.s a0_7), .int .i64 (.s a0_8), .int .i64 (.s a0_9), .int .i64 (.s a0_10), .int .i64 (.s a0_11), .int .i64 (.s a0_12), .int .i64 (.s a0_13), .int .i64 (.s a0_14), .int .i64 (.s a0_15)], .int .i64 (.s a1)] [] 0).opt r_i64x16.dec = vespersref07_With.f a0_0 a0_1 a0_2 a0_3 a0_4 a0_5 a0_6 a0_7 a0_8 a0_9 a0_10 a0_11 a0_12 a0_13 a0_14 a0_15 a1 := by kernel_rfl
  exact calls_of named mixed t_vespersref07_Numbers_ok.ct noL_ok ht h (by kernel_rfl) (by kernel_rfl) w fun _ _ _ _ _ hd hx => r_i64x16.ok hd hx
noncomputable def vespersref07_With.c : Entry := fun args _ => g_i64x16 args fun a0_0 a0_1 a0_2 a0_3 a0_4 a0_5 a0_6 a0_7 a0_8 a0_9 a0_10 a0_11 a0_12 a0_13 a0_14 a0_15 args => aI .i64 args fun a1 args => aN args (some { o := vespersref07_With.f a0_0 a0_1 a0_2 a0_3 a0_4 a0_5 a0_6 a0_7 a0_8 a0_9 a0_10 a0_11 a0_12 a0_13 a0_14 a0_15 a1, enc := r_i64x16.enc })
theorem vespersref07_With.ok : EntryOK Try.prog 41 vespersref07_With.c := by
  intro args H c h r hr ρ hn w xs hx hrel
  unfold vespersref07_With.c at h
  obtain ⟨a0_0, a0_1, a0_2, a0_3, a0_4, a0_5, a0_6, a0_7, a0_8, a0_9, a0_10, a0_11, a0_12, a0_13, a0_14, a0_15, xs, args, rfl, hx, h⟩ := g_i64x16_ok h hx
  obtain ⟨a1, xs, args, rfl, hx, h⟩ := aI_ok h hx
  obtain ⟨rfl, h⟩ := aN_ok h hx
  cases h
  obtain ⟨r1, r2, r3, r4, r5, r6, r7, r8, r9, r10, r11, r12, r13, r14, r15, r16⟩ := r
  refine (vespersref07_With.calls a0_0 a0_1 a0_2 a0_3 a0_4 a0_5 a0_6 a0_7 a0_8 a0_9 a0_10 a0_11 a0_12 a0_13 a0_14 a0_15 a1 r1 r2 r3 r4 r5 r6 r7 r8 r9 r10 r11 r12 r13 r14 r15 r16 w hr).mono ?_
  rintro e w' ⟨rfl, hb⟩
  exact ⟨_, rfl, r_i64x16.enc_rel ρ (r1, r2, r3, r4, r5, r6, r7, r8, r9, r10, r11, r12, r13, r14, r15, r16), hrel.below hb, Eff.of_below hb⟩
noncomputable def t_vespersref07_With : List (Nat × Entry) := (41, vespersref07_With.c) :: t_vespersref07_Numbers
theorem t_vespersref07_With_ok : TabOK Try.prog t_vespersref07_With := TabOK.cons vespersref07_With.ok t_vespersref07_Numbers_ok
abbrev vespersref07_Fit.X0 := Int × Int × Int × Int × Int × Int × Int × Int × Int × Int × Int × Int × Int × Int × Int × Int × Int
def vespersref07_Fit.decX0 : List AV → Option vespersref07_Fit.X0
  | [y0, y1, y2, y3, y4, y5, y6, y7, y8, y9, y10, y11, y12, y13, y14, y15, y16] => (dI .i64 y0).bind fun n0 => (dI .i64 y1).bind fun n1 => (dI .i64 y2).bind fun n2 => (dI .i64 y3).bind fun n3 => (dI .i64 y4).bind fun n4 => (dI .i64 y5).bind fun n5 => (dI .i64 y6).bind fun n6 => (dI .i64 y7).bind fun n7 => (dI .i64 y8).bind fun n8 => (dI .i64 y9).bind fun n9 => (dI .i64 y10).bind fun n10 => (dI .i64 y11).bind fun n11 => (dI .i64 y12).bind fun n12 => (dI .i64 y13).bind fun n13 => (dI .i64 y14).bind fun n14 => (dI .i64 y15).bind fun n15 => (dI .i64 y16).bind fun n16 => some (n0, n1, n2, n3, n4, n5, n6, n7, n8, n9, n10, n11, n12, n13, n14, n15, n16)
  | _ => none
def vespersref07_Fit.encX0 (x : vespersref07_Fit.X0) : List AV := [.int .i64 (.s x.1), .int .i64 (.s x.2.1), .int .i64 (.s x.2.2.1), .int .i64 (.s x.2.2.2.1), .int .i64 (.s x.2.2.2.2.1), .int .i64 (.s x.2.2.2.2.2.1), .int .i64 (.s x.2.2.2.2.2.2.1), .int .i64 (.s x.2.2.2.2.2.2.2.1), .int .i64 (.s x.2.2.2.2.2.2.2.2.1), .int .i64 (.s x.2.2.2.2.2.2.2.2.2.1), .int .i64 (.s x.2.2.2.2.2.2.2.2.2.2.1), .int .i64 (.s x.2.2.2.2.2.2.2.2.2.2.2.1), .int .i64 (.s x.2.2.2.2.2.2.2.2.2.2.2.2.1), .int .i64 (.s x.2.2.2.2.2.2.2.2.2.2.2.2.2.1), .int .i64 (.s x.2.2.2.2.2.2.2.2.2.2.2.2.2.2.1), .int .i64 (.s x.2.2.2.2.2.2.2.2.2.2.2.2.2.2.2.1), .int .i64 (.s x.2.2.2.2.2.2.2.2.2.2.2.2.2.2.2.2)]
theorem vespersref07_Fit.decX0_ok (ys : List AV) (x : vespersref07_Fit.X0) (h : vespersref07_Fit.decX0 ys = some x) : Ptw ys (vespersref07_Fit.encX0 x) := by
  unfold vespersref07_Fit.decX0 at h
  split at h
  · obtain ⟨n0, e0, h⟩ := Option.bind_eq_some_iff.1 h
    obtain ⟨n1, e1, h⟩ := Option.bind_eq_some_iff.1 h
    obtain ⟨n2, e2, h⟩ := Option.bind_eq_some_iff.1 h
    obtain ⟨n3, e3, h⟩ := Option.bind_eq_some_iff.1 h
    obtain ⟨n4, e4, h⟩ := Option.bind_eq_some_iff.1 h
    obtain ⟨n5, e5, h⟩ := Option.bind_eq_some_iff.1 h
    obtain ⟨n6, e6, h⟩ := Option.bind_eq_some_iff.1 h
    obtain ⟨n7, e7, h⟩ := Option.bind_eq_some_iff.1 h
    obtain ⟨n8, e8, h⟩ := Option.bind_eq_some_iff.1 h
    obtain ⟨n9, e9, h⟩ := Option.bind_eq_some_iff.1 h
    obtain ⟨n10, e10, h⟩ := Option.bind_eq_some_iff.1 h
    obtain ⟨n11, e11, h⟩ := Option.bind_eq_some_iff.1 h
    obtain ⟨n12, e12, h⟩ := Option.bind_eq_some_iff.1 h
    obtain ⟨n13, e13, h⟩ := Option.bind_eq_some_iff.1 h
    obtain ⟨n14, e14, h⟩ := Option.bind_eq_some_iff.1 h
    obtain ⟨n15, e15, h⟩ := Option.bind_eq_some_iff.1 h
    obtain ⟨n16, e16, h⟩ := Option.bind_eq_some_iff.1 h
    cases h
    exact ⟨fun ρ x hx => dI_ok e0 hx, ⟨fun ρ x hx => dI_ok e1 hx, ⟨fun ρ x hx => dI_ok e2 hx, ⟨fun ρ x hx => dI_ok e3 hx, ⟨fun ρ x hx => dI_ok e4 hx, ⟨fun ρ x hx => dI_ok e5 hx, ⟨fun ρ x hx => dI_ok e6 hx, ⟨fun ρ x hx => dI_ok e7 hx, ⟨fun ρ x hx => dI_ok e8 hx, ⟨fun ρ x hx => dI_ok e9 hx, ⟨fun ρ x hx => dI_ok e10 hx, ⟨fun ρ x hx => dI_ok e11 hx, ⟨fun ρ x hx => dI_ok e12 hx, ⟨fun ρ x hx => dI_ok e13 hx, ⟨fun ρ x hx => dI_ok e14 hx, ⟨fun ρ x hx => dI_ok e15 hx, ⟨fun ρ x hx => dI_ok e16 hx, trivial⟩⟩⟩⟩⟩⟩⟩⟩⟩⟩⟩⟩⟩⟩⟩⟩⟩
  · cases h
abbrev vespersref07_Fit.Y0 := Int × Int × Int × Int × Int × Int × Int × Int × Int × Int × Int × Int × Int × Int × Int × Int × Int
def vespersref07_Fit.decY0 : List AV → Option vespersref07_Fit.Y0
  | [y0, y1, y2, y3, y4, y5, y6, y7, y8, y9, y10, y11, y12, y13, y14, y15, y16] => (dI .i64 y0).bind fun n0 => (dI .i64 y1).bind fun n1 => (dI .i64 y2).bind fun n2 => (dI .i64 y3).bind fun n3 => (dI .i64 y4).bind fun n4 => (dI .i64 y5).bind fun n5 => (dI .i64 y6).bind fun n6 => (dI .i64 y7).bind fun n7 => (dI .i64 y8).bind fun n8 => (dI .i64 y9).bind fun n9 => (dI .i64 y10).bind fun n10 => (dI .i64 y11).bind fun n11 => (dI .i64 y12).bind fun n12 => (dI .i64 y13).bind fun n13 => (dI .i64 y14).bind fun n14 => (dI .i64 y15).bind fun n15 => (dI .i64 y16).bind fun n16 => some (n0, n1, n2, n3, n4, n5, n6, n7, n8, n9, n10, n11, n12, n13, n14, n15, n16)
  | _ => none
def vespersref07_Fit.encY0 (x : vespersref07_Fit.Y0) : List AV := [.int .i64 (.s x.1), .int .i64 (.s x.2.1), .int .i64 (.s x.2.2.1), .int .i64 (.s x.2.2.2.1), .int .i64 (.s x.2.2.2.2.1), .int .i64 (.s x.2.2.2.2.2.1), .int .i64 (.s x.2.2.2.2.2.2.1), .int .i64 (.s x.2.2.2.2.2.2.2.1), .int .i64 (.s x.2.2.2.2.2.2.2.2.1), .int .i64 (.s x.2.2.2.2.2.2.2.2.2.1), .int .i64 (.s x.2.2.2.2.2.2.2.2.2.2.1), .int .i64 (.s x.2.2.2.2.2.2.2.2.2.2.2.1), .int .i64 (.s x.2.2.2.2.2.2.2.2.2.2.2.2.1), .int .i64 (.s x.2.2.2.2.2.2.2.2.2.2.2.2.2.1), .int .i64 (.s x.2.2.2.2.2.2.2.2.2.2.2.2.2.2.1), .int .i64 (.s x.2.2.2.2.2.2.2.2.2.2.2.2.2.2.2.1), .int .i64 (.s x.2.2.2.2.2.2.2.2.2.2.2.2.2.2.2.2)]
theorem vespersref07_Fit.decY0_ok (ys : List AV) (x : vespersref07_Fit.Y0) (h : vespersref07_Fit.decY0 ys = some x) : Ptw ys (vespersref07_Fit.encY0 x) := by
  unfold vespersref07_Fit.decY0 at h
  split at h
  · obtain ⟨n0, e0, h⟩ := Option.bind_eq_some_iff.1 h
    obtain ⟨n1, e1, h⟩ := Option.bind_eq_some_iff.1 h
    obtain ⟨n2, e2, h⟩ := Option.bind_eq_some_iff.1 h
    obtain ⟨n3, e3, h⟩ := Option.bind_eq_some_iff.1 h
    obtain ⟨n4, e4, h⟩ := Option.bind_eq_some_iff.1 h
    obtain ⟨n5, e5, h⟩ := Option.bind_eq_some_iff.1 h
    obtain ⟨n6, e6, h⟩ := Option.bind_eq_some_iff.1 h
    obtain ⟨n7, e7, h⟩ := Option.bind_eq_some_iff.1 h
    obtain ⟨n8, e8, h⟩ := Option.bind_eq_some_iff.1 h
    obtain ⟨n9, e9, h⟩ := Option.bind_eq_some_iff.1 h
    obtain ⟨n10, e10, h⟩ := Option.bind_eq_some_iff.1 h
    obtain ⟨n11, e11, h⟩ := Option.bind_eq_some_iff.1 h
    obtain ⟨n12, e12, h⟩ := Option.bind_eq_some_iff.1 h
    obtain ⟨n13, e13, h⟩ := Option.bind_eq_some_iff.1 h
    obtain ⟨n14, e14, h⟩ := Option.bind_eq_some_iff.1 h
    obtain ⟨n15, e15, h⟩ := Option.bind_eq_some_iff.1 h
    obtain ⟨n16, e16, h⟩ := Option.bind_eq_some_iff.1 h
    cases h
    exact ⟨fun ρ x hx => dI_ok e0 hx, ⟨fun ρ x hx => dI_ok e1 hx, ⟨fun ρ x hx => dI_ok e2 hx, ⟨fun ρ x hx => dI_ok e3 hx, ⟨fun ρ x hx => dI_ok e4 hx, ⟨fun ρ x hx => dI_ok e5 hx, ⟨fun ρ x hx => dI_ok e6 hx, ⟨fun ρ x hx => dI_ok e7 hx, ⟨fun ρ x hx => dI_ok e8 hx, ⟨fun ρ x hx => dI_ok e9 hx, ⟨fun ρ x hx => dI_ok e10 hx, ⟨fun ρ x hx => dI_ok e11 hx, ⟨fun ρ x hx => dI_ok e12 hx, ⟨fun ρ x hx => dI_ok e13 hx, ⟨fun ρ x hx => dI_ok e14 hx, ⟨fun ρ x hx => dI_ok e15 hx, ⟨fun ρ x hx => dI_ok e16 hx, trivial⟩⟩⟩⟩⟩⟩⟩⟩⟩⟩⟩⟩⟩⟩⟩⟩⟩
  · cases h
noncomputable def vespersref07_Fit.tm0 : Templ := { fn := 17, sz := szOf Try.prog 17, hn := 2, slots := [(1, .ptr 0 0), (2, .ptr 1 0), (3, .int .i64 0), (4, .hole)], H := [(0, 23, [.hole, .hole, .hole, .hole, .hole, .hole, .hole, .hole, .hole, .hole, .hole, .hole, .hole, .hole, .hole, .hole]), (1, 23, [.int .i64 0, .int .i64 0, .int .i64 0, .int .i64 0, .int .i64 0, .int .i64 0, .int .i64 0, .int .i64 0, .int .i64 0, .int .i64 0, .int .i64 0, .int .i64 0, .int .i64 0, .int .i64 0, .int .i64 0, .int .i64 0])] }
noncomputable def vespersref07_Fit.tr0 : Templ := { fn := 17, sz := szOf Try.prog 17, hn := 2, slots := [(2, .ptr 1 0), (3, .hole)], H := [(1, 23, [.hole, .hole, .hole, .hole, .hole, .hole, .hole, .hole, .hole, .hole, .hole, .hole, .hole, .hole, .hole, .hole])] }
noncomputable def vespersref07_Fit.b0 : Code := loopOf Try.prog 17 0
noncomputable def vespersref07_Fit.k0 : LK vespersref07_Fit.X0 vespersref07_Fit.Y0 := ⟨vespersref07_Fit.tm0, vespersref07_Fit.tr0, vespersref07_Fit.decX0, vespersref07_Fit.encX0, vespersref07_Fit.decY0, vespersref07_Fit.encY0⟩
theorem vespersref07_Fit.k0_ok : vespersref07_Fit.k0.OK := ⟨vespersref07_Fit.decX0_ok, vespersref07_Fit.decY0_ok⟩
def vespersref07_Fit.step0 (x : vespersref07_Fit.X0) : Option (vespersref07_Fit.X0 ⊕ (vespersref07_Fit.X0 ⊕ vespersref07_Fit.Y0)) :=
  (if x.fst ≤ 1048576 then ((vespersref07_With.f x.snd.fst x.snd.snd.fst x.snd.snd.snd.fst x.snd.snd.snd.snd.fst x.snd.snd.snd.snd.snd.fst x.snd.snd.snd.snd.snd.snd.fst x.snd.snd.snd.snd.snd.snd.snd.fst x.snd.snd.snd.snd.snd.snd.snd.snd.fst x.snd.snd.snd.snd.snd.snd.snd.snd.snd.fst x.snd.snd.snd.snd.snd.snd.snd.snd.snd.snd.fst x.snd.snd.snd.snd.snd.snd.snd.snd.snd.snd.snd.fst x.snd.snd.snd.snd.snd.snd.snd.snd.snd.snd.snd.snd.fst x.snd.snd.snd.snd.snd.snd.snd.snd.snd.snd.snd.snd.snd.fst x.snd.snd.snd.snd.snd.snd.snd.snd.snd.snd.snd.snd.snd.snd.fst x.snd.snd.snd.snd.snd.snd.snd.snd.snd.snd.snd.snd.snd.snd.snd.fst x.snd.snd.snd.snd.snd.snd.snd.snd.snd.snd.snd.snd.snd.snd.snd.snd x.fst).bind fun t0 => (if wrap64 (wrap64 (wrap64 (wrap64 (wrap64 (wrap64 (t0.snd.snd.snd.fst + t0.snd.snd.snd.snd.fst) + wrap64 (2 * t0.snd.snd.snd.snd.snd.snd.snd.fst)) + wrap64 (2 * t0.snd.snd.snd.snd.snd.fst)) + t0.snd.snd.snd.snd.snd.snd.snd.snd.snd.snd.fst) + t0.snd.snd.snd.snd.snd.snd.snd.snd.snd.fst) + 8) ≤ x.fst then ((vespersref07_Fails.f t0.fst t0.snd.fst t0.snd.snd.fst t0.snd.snd.snd.fst t0.snd.snd.snd.snd.fst t0.snd.snd.snd.snd.snd.fst t0.snd.snd.snd.snd.snd.snd.fst t0.snd.snd.snd.snd.snd.snd.snd.fst t0.snd.snd.snd.snd.snd.snd.snd.snd.fst t0.snd.snd.snd.snd.snd.snd.snd.snd.snd.fst t0.snd.snd.snd.snd.snd.snd.snd.snd.snd.snd.fst t0.snd.snd.snd.snd.snd.snd.snd.snd.snd.snd.snd.fst t0.snd.snd.snd.snd.snd.snd.snd.snd.snd.snd.snd.snd.fst t0.snd.snd.snd.snd.snd.snd.snd.snd.snd.snd.snd.snd.snd.fst t0.snd.snd.snd.snd.snd.snd.snd.snd.snd.snd.snd.snd.snd.snd.fst t0.snd.snd.snd.snd.snd.snd.snd.snd.snd.snd.snd.snd.snd.snd.snd).bind fun t1 => (if t1 > 0 then some (Sum.inr (Sum.inr (71, 0, 0, 0, 0, 0, 0, 0, 0, 0, 0, 0, 0, 0, 0, 0, 0))) else some (Sum.inr (Sum.inr (0, t0.fst, t0.snd.fst, t0.snd.snd.fst, t0.snd.snd.snd.fst, t0.snd.snd.snd.snd.fst, t0.snd.snd.snd.snd.snd.fst, t0.snd.snd.snd.snd.snd.snd.fst, t0.snd.snd.snd.snd.snd.snd.snd.fst, t0.snd.snd.snd.snd.snd.snd.snd.snd.fst, t0.snd.snd.snd.snd.snd.snd.snd.snd.snd.fst, t0.snd.snd.snd.snd.snd.snd.snd.snd.snd.snd.fst, t0.snd.snd.snd.snd.snd.snd.snd.snd.snd.snd.snd.fst, t0.snd.snd.snd.snd.snd.snd.snd.snd.snd.snd.snd.snd.fst, t0.snd.snd.snd.snd.snd.snd.snd.snd.snd.snd.snd.snd.snd.fst, t0.snd.snd.snd.snd.snd.snd.snd.snd.snd.snd.snd.snd.snd.snd.fst, t0.snd.snd.snd.snd.snd.snd.snd.snd.snd.snd.snd.snd.snd.snd.snd))))) else some (Sum.inl (wrap64 (wrap64 (wrap64 (wrap64 (wrap64 (wrap64 (t0.snd.snd.snd.fst + t0.snd.snd.snd.snd.fst) + wrap64 (2 * t0.snd.snd.snd.snd.snd.snd.snd.fst)) + wrap64 (2 * t0.snd.snd.snd.snd.snd.fst)) + t0.snd.snd.snd.snd.snd.snd.snd.snd.snd.snd.fst) + t0.snd.snd.snd.snd.snd.snd.snd.snd.snd.fst) + 8), x.snd.fst, x.snd.snd.fst, x.snd.snd.snd.fst, x.snd.snd.snd.snd.fst, x.snd.snd.snd.snd.snd.fst, x.snd.snd.snd.snd.snd.snd.fst, x.snd.snd.snd.snd.snd.snd.snd.fst, x.snd.snd.snd.snd.snd.snd.snd.snd.fst, x.snd.snd.snd.snd.snd.snd.snd.snd.snd.fst, x.snd.snd.snd.snd.snd.snd.snd.snd.snd.snd.fst, x.snd.snd.snd.snd.snd.snd.snd.snd.snd.snd.snd.fst, x.snd.snd.snd.snd.snd.snd.snd.snd.snd.snd.snd.snd.fst, x.snd.snd.snd.snd.snd.snd.snd.snd.snd.snd.snd.snd.snd.fst, x.snd.snd.snd.snd.snd.snd.snd.snd.snd.snd.snd.snd.snd.snd.fst, x.snd.snd.snd.snd.snd.snd.snd.snd.snd.snd.snd.snd.snd.snd.snd.fst, x.snd.snd.snd.snd.snd.snd.snd.snd.snd.snd.snd.snd.snd.snd.snd.snd)))) else some (Sum.inr (Sum.inl (x.fst, x.snd.fst, x.snd.snd.fst, x.snd.snd.snd.fst, x.snd.snd.snd.snd.fst, x.snd.snd.snd.snd.snd.fst, x.snd.snd.snd.snd.snd.snd.fst, x.snd.snd.snd.snd.snd.snd.snd.fst, x.snd.snd.snd.snd.snd.snd.snd.snd.fst, x.snd.snd.snd.snd.snd.snd.snd.snd.snd.fst, x.snd.snd.snd.snd.snd.snd.snd.snd.snd.snd.fst, x.snd.snd.snd.snd.snd.snd.snd.snd.snd.snd.snd.fst, x.snd.snd.snd.snd.snd.snd.snd.snd.snd.snd.snd.snd.fst, x.snd.snd.snd.snd.snd.snd.snd.snd.snd.snd.snd.snd.snd.fst, x.snd.snd.snd.snd.snd.snd.snd.snd.snd.snd.snd.snd.snd.snd.fst, x.snd.snd.snd.snd.snd.snd.snd.snd.snd.snd.snd.snd.snd.snd.snd.fst, x.snd.snd.snd.snd.snd.snd.snd.snd.snd.snd.snd.snd.snd.snd.snd.snd))))
set_option maxRecDepth 100000 in
theorem vespersref07_Fit.step0_eq (x : vespersref07_Fit.X0) : (roundT Try.prog (ctOf t_vespersref07_With) noL 100000 vespersref07_Fit.tm0 vespersref07_Fit.tr0 0 vespersref07_Fit.b0 (vespersref07_Fit.encX0 x)).opt (leafD vespersref07_Fit.decX0 vespersref07_Fit.decY0) = vespersref07_Fit.step0 x := by kernel_rfl
noncomputable def vespersref07_Fit.lt : LTab := ltOf [(17, 0, vespersref07_Fit.k0.lc vespersref07_Fit.step0 vespersref07_Fit.b0)]
theorem vespersref07_Fit.lt_ok : LtOK Try.prog vespersref07_Fit.lt := (ltOf_cons named mixed t_vespersref07_With_ok.ct noL_ok vespersref07_Fit.k0_ok rfl vespersref07_Fit.step0_eq ltOf_nil)
def vespersref07_Fit.f (a0_0 : Int) (a0_1 : Int) (a0_2 : Int) (a0_3 : Int) (a0_4 : Int) (a0_5 : Int) (a0_6 : Int) (a0_7 : Int) (a0_8 : Int) (a0_9 : Int) (a0_10 : Int) (a0_11 : Int) (a0_12 : Int) (a0_13 : Int) (a0_14 : Int) (a0_15 : Int) : Option (Int × Int × Int × Int × Int × Int × Int × Int × Int × Int × Int × Int × Int × Int × Int × Int × Int) :=
  ((vespersref07_first.f a0_0 a0_1 1 a0_3 a0_4 a0_5 a0_6 a0_7 a0_8 a0_9 a0_10 a0_11 a0_12 a0_13 a0_14 a0_15).bind fun t0 => (if t0 > 0 then some (0, 0, 0, 0, 0, 0, 0, 0, 0, 0, 0, 0, 0, 0, 0, 0, 71) else (if a0_12 < 1 then some (0, 0, 0, 0, 0, 0, 0, 0, 0, 0, 0, 0, 0, 0, 0, 0, 71) else (if a0_12 > 64 then some (0, 0, 0, 0, 0, 0, 0, 0, 0, 0, 0, 0, 0, 0, 0, 0, 71) else (if a0_13 < 1 then some (0, 0, 0, 0, 0, 0, 0, 0, 0, 0, 0, 0, 0, 0, 0, 0, 71) else (if a0_13 > 8 then some (0, 0, 0, 0, 0, 0, 0, 0, 0, 0, 0, 0, 0, 0, 0, 0, 71) else (if a0_14 < 1 then some (0, 0, 0, 0, 0, 0, 0, 0, 0, 0, 0, 0, 0, 0, 0, 0, 71) else (if a0_14 > 32 then some (0, 0, 0, 0, 0, 0, 0, 0, 0, 0, 0, 0, 0, 0, 0, 0, 71) else ((guardEq vespersref07_Fit.b0.loop vespersref07_Fit.b0.loop (rounds vespersref07_Fit.step0 (1, a0_0, a0_1, 1, a0_3, a0_4, a0_5, a0_6, a0_7, a0_8, a0_9, a0_10, a0_11, a0_12, a0_13, a0_14, a0_15))).bind fun t1 => (match t1 with | .inl x2 => some (0, 0, 0, 0, 0, 0, 0, 0, 0, 0, 0, 0, 0, 0, 0, 0, 71) | .inr y2 => some (y2.snd.fst, y2.snd.snd.fst, y2.snd.snd.snd.fst, y2.snd.snd.snd.snd.fst, y2.snd.snd.snd.snd.snd.fst, y2.snd.snd.snd.snd.snd.snd.fst, y2.snd.snd.snd.snd.snd.snd.snd.fst, y2.snd.snd.snd.snd.snd.snd.snd.snd.fst, y2.snd.snd.snd.snd.snd.snd.snd.snd.snd.fst, y2.snd.snd.snd.snd.snd.snd.snd.snd.snd.snd.fst, y2.snd.snd.snd.snd.snd.snd.snd.snd.snd.snd.snd.fst, y2.snd.snd.snd.snd.snd.snd.snd.snd.snd.snd.snd.snd.fst, y2.snd.snd.snd.snd.snd.snd.snd.snd.snd.snd.snd.snd.snd.fst, y2.snd.snd.snd.snd.snd.snd.snd.snd.snd.snd.snd.snd.snd.snd.fst, y2.snd.snd.snd.snd.snd.snd.snd.snd.snd.snd.snd.snd.snd.snd.snd.fst, y2.snd.snd.snd.snd.snd.snd.snd.snd.snd.snd.snd.snd.snd.snd.snd.snd, y2.fst)))))))))))
set_option maxRecDepth 100000 in
theorem vespersref07_Fit.calls (a0_0 : Int) (a0_1 : Int) (a0_2 : Int) (a0_3 : Int) (a0_4 : Int) (a0_5 : Int) (a0_6 : Int) (a0_7 : Int) (a0_8 : Int) (a0_9 : Int) (a0_10 : Int) (a0_11 : Int) (a0_12 : Int) (a0_13 : Int) (a0_14 : Int) (a0_15 : Int) (r1 : Int) (r2 : Int) (r3 : Int) (r4 : Int) (r5 : Int) (r6 : Int) (r7 : Int) (r8 : Int) (r9 : Int) (r10 : Int) (r11 : Int) (r12 : Int) (r13 : Int) (r14 : Int) (r15 : Int) (r16 : Int) (r17 : Int) (w : World) (h : vespersref07_Fit.f a0_0 a0_1 a0_2 a0_3 a0_4 a0_5 a0_6 a0_7 a0_8 a0_9 a0_10 a0_11 a0_12 a0_13 a0_14 a0_15 = some (r1, r2, r3, r4, r5, r6, r7, r8, r9, r10, r11, r12, r13, r14, r15, r16, r17)) :
    Calls Try.prog 17 #[.agg #[.int .i64 a0_0, .int .i64 a0_1, .int .i64 a0_2, .int .i64 a0_3, .int .i64 a0_4, .int .i64 a0_5, .int .i64 a0_6, .int .i64 a0_7, .int .i64 a0_8, .int .i64 a0_9, .int .i64 a0_10, .int .i64 a0_11, .int .i64 a0_12, .int .i64 a0_13, .int .i64 a0_14, .int .i64 a0_15]] w fun e w' => e = .returned (.tuple #[.agg #[.int .i64 r1, .int .i64 r2, .int .i64 r3, .int .i64 r4, .int .i64 r5, .int .i64 r6, .int .i64 r7, .int .i64 r8, .int .i64 r9, .int .i64 r10, .int .i64 r11, .int .i64 r12, .int .i64 r13, .int .i64 r14, .int .i64 r15, .int .i64 r16], .int .i64 r17]) ∧ Below w.heap.size w w' := by
  have ht : (walk Try.prog (ctOf t_vespersref07_With) vespersref07_Fit.lt 100000 17 [.agg [.int .i64 (.s a0_0), .int .i64 (.s a0_1), .int .i64 (.s a0_2), .int .i64 (.s a0_3), .int .i64 (.s a0_4), .int .i64 (.s a0_5), .int .i64 (.s a0_6), .int .i64 (.s a0_7), .int .i64 (.s a0_8), .int .i64 (.s a0_9), .int .i64 (.s a0_10), .int .i64 (.s a0_11), .int .i64 (.s a0_12), .int .i64 (.s a0_13), .int .i64 (.s a0_14), .int .i64 (.s a0_15)]] [] 0).opt r_i64x16_i64.dec = vespersref07_Fit.f a0_0 a0_1 a0_2 a0_3 a0_4 a0_5 a0_6 a0_7 a0_8 a0_9 a0_10 a0_11 a0_12 a0_13 a0_14 a0_15 := by kernel_rfl
  exact calls_of named mixed t_vespersref07_With_ok.ct vespersref07_Fit.lt_ok ht h (by kernel_rfl) (by kernel_rfl) w fun _ _ _ _ _ hd hx => r_i64x16_i64.ok hd hx
noncomputable def vespersref07_Fit.c : Entry := fun args _ => g_i64x16 args fun a0_0 a0_1 a0_2 a0_3 a0_4 a0_5 a0_6 a0_7 a0_8 a0_9 a0_10 a0_11 a0_12 a0_13 a0_14 a0_15 args => aN args (some { o := vespersref07_Fit.f a0_0 a0_1 a0_2 a0_3 a0_4 a0_5 a0_6 a0_7 a0_8 a0_9 a0_10 a0_11 a0_12 a0_13 a0_14 a0_15, enc := r_i64x16_i64.enc })
theorem vespersref07_Fit.ok : EntryOK Try.prog 17 vespersref07_Fit.c := by
  intro args H c h r hr ρ hn w xs hx hrel
  unfold vespersref07_Fit.c at h
  obtain ⟨a0_0, a0_1, a0_2, a0_3, a0_4, a0_5, a0_6, a0_7, a0_8, a0_9, a0_10, a0_11, a0_12, a0_13, a0_14, a0_15, xs, args, rfl, hx, h⟩ := g_i64x16_ok h hx
  obtain ⟨rfl, h⟩ := aN_ok h hx
  cases h
  obtain ⟨r1, r2, r3, r4, r5, r6, r7, r8, r9, r10, r11, r12, r13, r14, r15, r16, r17⟩ := r
  refine (vespersref07_Fit.calls a0_0 a0_1 a0_2 a0_3 a0_4 a0_5 a0_6 a0_7 a0_8 a0_9 a0_10 a0_11 a0_12 a0_13 a0_14 a0_15 r1 r2 r3 r4 r5 r6 r7 r8 r9 r10 r11 r12 r13 r14 r15 r16 r17 w hr).mono ?_
  rintro e w' ⟨rfl, hb⟩
  exact ⟨_, rfl, r_i64x16_i64.enc_rel ρ (r1, r2, r3, r4, r5, r6, r7, r8, r9, r10, r11, r12, r13, r14, r15, r16, r17), hrel.below hb, Eff.of_below hb⟩
noncomputable def t_vespersref07_Fit : List (Nat × Entry) := (17, vespersref07_Fit.c) :: t_vespersref07_With
theorem t_vespersref07_Fit_ok : TabOK Try.prog t_vespersref07_Fit := TabOK.cons vespersref07_Fit.ok t_vespersref07_With_ok
def vesperslaw07_alive.f  : Option Bool :=
  some true
set_option maxRecDepth 100000 in
theorem vesperslaw07_alive.calls (r : Bool) (w : World) (h : vesperslaw07_alive.f = some r) :
    Calls Try.prog 40 #[] w fun e w' => e = .returned (.bool r) ∧ Below w.heap.size w w' := by
  have ht : (walk Try.prog (ctOf []) noL 100000 40 [] [] 0).opt r_bool.dec = vesperslaw07_alive.f := by kernel_rfl
  exact calls_of named mixed (TabOK.nil).ct noL_ok ht h (by kernel_rfl) (by kernel_rfl) w fun _ _ _ _ _ hd hx => r_bool.ok hd hx
noncomputable def vesperslaw07_alive.c : Entry := fun args _ => aN args (some { o := vesperslaw07_alive.f, enc := r_bool.enc })
theorem vesperslaw07_alive.ok : EntryOK Try.prog 40 vesperslaw07_alive.c := by
  intro args H c h r hr ρ hn w xs hx hrel
  unfold vesperslaw07_alive.c at h
  obtain ⟨rfl, h⟩ := aN_ok h hx
  cases h
  refine (vesperslaw07_alive.calls r w hr).mono ?_
  rintro e w' ⟨rfl, hb⟩
  exact ⟨_, rfl, r_bool.enc_rel ρ r, hrel.below hb, Eff.of_below hb⟩
noncomputable def t_vesperslaw07_alive : List (Nat × Entry) := (40, vesperslaw07_alive.c) :: t_vespersref07_Fit
theorem t_vesperslaw07_alive_ok : TabOK Try.prog t_vesperslaw07_alive := TabOK.cons vesperslaw07_alive.ok t_vespersref07_Fit_ok
def vesperslaw07_PlanFits.f (a0_0 : Int) (a0_1 : Int) (a0_2 : Int) (a0_3 : Int) (a0_4 : Int) (a0_5 : Int) (a0_6 : Int) (a0_7 : Int) (a0_8 : Int) (a0_9 : Int) (a0_10 : Int) (a0_11 : Int) (a0_12 : Int) (a0_13 : Int) (a0_14 : Int) (a0_15 : Int) : Option Bool :=
  ((plan_Fit.f a0_0 a0_1 a0_2 a0_3 a0_4 a0_5 a0_6 a0_7 a0_8 a0_9 a0_10 a0_11 a0_12 a0_13 a0_14 a0_15).bind fun t0 => ((vespersref07_Fit.f a0_0 a0_1 a0_2 a0_3 a0_4 a0_5 a0_6 a0_7 a0_8 a0_9 a0_10 a0_11 a0_12 a0_13 a0_14 a0_15).bind fun t1 => (if (decide (t0.fst = t1.fst) && (decide (t0.snd.fst = t1.snd.fst) && (decide (t0.snd.snd.fst = t1.snd.snd.fst) && (decide (t0.snd.snd.snd.fst = t1.snd.snd.snd.fst) && (decide (t0.snd.snd.snd.snd.fst = t1.snd.snd.snd.snd.fst) && (decide (t0.snd.snd.snd.snd.snd.fst = t1.snd.snd.snd.snd.snd.fst) && (decide (t0.snd.snd.snd.snd.snd.snd.fst = t1.snd.snd.snd.snd.snd.snd.fst) && (decide (t0.snd.snd.snd.snd.snd.snd.snd.fst = t1.snd.snd.snd.snd.snd.snd.snd.fst) && (decide (t0.snd.snd.snd.snd.snd.snd.snd.snd.fst = t1.snd.snd.snd.snd.snd.snd.snd.snd.fst) && (decide (t0.snd.snd.snd.snd.snd.snd.snd.snd.snd.fst = t1.snd.snd.snd.snd.snd.snd.snd.snd.snd.fst) && (decide (t0.snd.snd.snd.snd.snd.snd.snd.snd.snd.snd.fst = t1.snd.snd.snd.snd.snd.snd.snd.snd.snd.snd.fst) && (decide (t0.snd.snd.snd.snd.snd.snd.snd.snd.snd.snd.snd.fst = t1.snd.snd.snd.snd.snd.snd.snd.snd.snd.snd.snd.fst) && (decide (t0.snd.snd.snd.snd.snd.snd.snd.snd.snd.snd.snd.snd.fst = t1.snd.snd.snd.snd.snd.snd.snd.snd.snd.snd.snd.snd.fst) && (decide (t0.snd.snd.snd.snd.snd.snd.snd.snd.snd.snd.snd.snd.snd.fst = t1.snd.snd.snd.snd.snd.snd.snd.snd.snd.snd.snd.snd.snd.fst) && (decide (t0.snd.snd.snd.snd.snd.snd.snd.snd.snd.snd.snd.snd.snd.snd.fst = t1.snd.snd.snd.snd.snd.snd.snd.snd.snd.snd.snd.snd.snd.snd.fst) && (decide (t0.snd.snd.snd.snd.snd.snd.snd.snd.snd.snd.snd.snd.snd.snd.snd.fst = t1.snd.snd.snd.snd.snd.snd.snd.snd.snd.snd.snd.snd.snd.snd.snd.fst) && true)))))))))))))))) = true then some (decide (t0.snd.snd.snd.snd.snd.snd.snd.snd.snd.snd.snd.snd.snd.snd.snd.snd = t1.snd.snd.snd.snd.snd.snd.snd.snd.snd.snd.snd.snd.snd.snd.snd.snd)) else some false)))
set_option maxRecDepth 100000 in
theorem vesperslaw07_PlanFits.calls (a0_0 : Int) (a0_1 : Int) (a0_2 : Int) (a0_3 : Int) (a0_4 : Int) (a0_5 : Int) (a0_6 : Int) (a0_7 : Int) (a0_8 : Int) (a0_9 : Int) (a0_10 : Int) (a0_11 : Int) (a0_12 : Int) (a0_13 : Int) (a0_14 : Int) (a0_15 : Int) (r : Bool) (w : World) (h : vesperslaw07_PlanFits.f a0_0 a0_1 a0_2 a0_3 a0_4 a0_5 a0_6 a0_7 a0_8 a0_9 a0_10 a0_11 a0_12 a0_13 a0_14 a0_15 = some r) :
    Calls Try.prog 4 #[.agg #[.int .i64 a0_0, .int .i64 a0_1, .int .i64 a0_2, .int .i64 a0_3, .int .i64 a0_4, .int .i64 a0_5, .int .i64 a0_6, .int .i64 a0_7, .int .i64 a0_8, .int .i64 a0_9, .int .i64 a0_10, .int .i64 a0_11, .int .i64 a0_12, .int .i64 a0_13, .int .i64 a0_14, .int .i64 a0_15]] w fun e w' => e = .returned (.bool r) ∧ Below w.heap.size w w' := by
  have ht : (walk Try.prog (ctOf t_vesperslaw07_alive) noL 100000 4 [.agg [.int .i64 (.s a0_0), .int .i64 (.s a0_1), .int .i64 (.s a0_2), .int .i64 (.s a0_3), .int .i64 (.s a0_4), .int .i64 (.s a0_5), .int .i64 (.s a0_6), .int .i64 (.s a0_7), .int .i64 (.s a0_8), .int .i64 (.s a0_9), .int .i64 (.s a0_10), .int .i64 (.s a0_11), .int .i64 (.s a0_12), .int .i64 (.s a0_13), .int .i64 (.s a0_14), .int .i64 (.s a0_15)]] [] 0).opt r_bool.dec = vesperslaw07_PlanFits.f a0_0 a0_1 a0_2 a0_3 a0_4 a0_5 a0_6 a0_7 a0_8 a0_9 a0_10 a0_11 a0_12 a0_13 a0_14 a0_15 := by kernel_rfl
  exact calls_of named mixed t_vesperslaw07_alive_ok.ct noL_ok ht h (by kernel_rfl) (by kernel_rfl) w fun _ _ _ _ _ hd hx => r_bool.ok hd hx
noncomputable def vesperslaw07_PlanFits.c : Entry := fun args _ => g_i64x16 args fun a0_0 a0_1 a0_2 a0_3 a0_4 a0_5 a0_6 a0_7 a0_8 a0_9 a0_10 a0_11 a0_12 a0_13 a0_14 a0_15 args => aN args (some { o := vesperslaw07_PlanFits.f a0_0 a0_1 a0_2 a0_3 a0_4 a0_5 a0_6 a0_7 a0_8 a0_9 a0_10 a0_11 a0_12 a0_13 a0_14 a0_15, enc := r_bool.enc })
theorem vesperslaw07_PlanFits.ok : EntryOK Try.prog 4 vesperslaw07_PlanFits.c := by
  intro args H c h r hr ρ hn w xs hx hrel
  unfold vesperslaw07_PlanFits.c at h
  obtain ⟨a0_0, a0_1, a0_2, a0_3, a0_4, a0_5, a0_6, a0_7, a0_8, a0_9, a0_10, a0_11, a0_12, a0_13, a0_14, a0_15, xs, args, rfl, hx, h⟩ := g_i64x16_ok h hx
  obtain ⟨rfl, h⟩ := aN_ok h hx
  cases h
  refine (vesperslaw07_PlanFits.calls a0_0 a0_1 a0_2 a0_3 a0_4 a0_5 a0_6 a0_7 a0_8 a0_9 a0_10 a0_11 a0_12 a0_13 a0_14 a0_15 r w hr).mono ?_
  rintro e w' ⟨rfl, hb⟩
  exact ⟨_, rfl, r_bool.enc_rel ρ r, hrel.below hb, Eff.of_below hb⟩
noncomputable def t_vesperslaw07_PlanFits : List (Nat × Entry) := (4, vesperslaw07_PlanFits.c) :: t_vesperslaw07_alive
theorem t_vesperslaw07_PlanFits_ok : TabOK Try.prog t_vesperslaw07_PlanFits := TabOK.cons vesperslaw07_PlanFits.ok t_vesperslaw07_alive_ok
def vesperslaw07_PlanLeast.f (a0_0 : Int) (a0_1 : Int) (a0_2 : Int) (a0_3 : Int) (a0_4 : Int) (a0_5 : Int) (a0_6 : Int) (a0_7 : Int) (a0_8 : Int) (a0_9 : Int) (a0_10 : Int) (a0_11 : Int) (a0_12 : Int) (a0_13 : Int) (a0_14 : Int) (a0_15 : Int) (a1 : Int) : Option Bool :=
  ((vesperslaw07_alive.f).bind fun t0 => ((plan_Fit.f a0_0 a0_1 a0_2 a0_3 a0_4 a0_5 a0_6 a0_7 a0_8 a0_9 a0_10 a0_11 a0_12 a0_13 a0_14 a0_15).bind fun t1 => (if t1.snd.snd.snd.snd.snd.snd.snd.snd.snd.snd.snd.snd.snd.snd.snd.snd ≠ 0 then (if t0 = true then (if t1.snd.snd.snd.snd.snd.snd.snd.snd.snd.snd.snd.snd.snd.snd.snd.snd = 71 then some (decide (t1.fst = 0) && (decide (t1.snd.fst = 0) && (decide (t1.snd.snd.fst = 0) && (decide (t1.snd.snd.snd.fst = 0) && (decide (t1.snd.snd.snd.snd.fst = 0) && (decide (t1.snd.snd.snd.snd.snd.fst = 0) && (decide (t1.snd.snd.snd.snd.snd.snd.fst = 0) && (decide (t1.snd.snd.snd.snd.snd.snd.snd.fst = 0) && (decide (t1.snd.snd.snd.snd.snd.snd.snd.snd.fst = 0) && (decide (t1.snd.snd.snd.snd.snd.snd.snd.snd.snd.fst = 0) && (decide (t1.snd.snd.snd.snd.snd.snd.snd.snd.snd.snd.fst = 0) && (decide (t1.snd.snd.snd.snd.snd.snd.snd.snd.snd.snd.snd.fst = 0) && (decide (t1.snd.snd.snd.snd.snd.snd.snd.snd.snd.snd.snd.snd.fst = 0) && (decide (t1.snd.snd.snd.snd.snd.snd.snd.snd.snd.snd.snd.snd.snd.fst = 0) && (decide (t1.snd.snd.snd.snd.snd.snd.snd.snd.snd.snd.snd.snd.snd.snd.fst = 0) && (decide (t1.snd.snd.snd.snd.snd.snd.snd.snd.snd.snd.snd.snd.snd.snd.snd.fst = 0) && true)))))))))))))))) else some false) else some false) else ((plan_Check.f t1.fst t1.snd.fst t1.snd.snd.fst t1.snd.snd.snd.fst t1.snd.snd.snd.snd.fst t1.snd.snd.snd.snd.snd.fst t1.snd.snd.snd.snd.snd.snd.fst t1.snd.snd.snd.snd.snd.snd.snd.fst t1.snd.snd.snd.snd.snd.snd.snd.snd.fst t1.snd.snd.snd.snd.snd.snd.snd.snd.snd.fst t1.snd.snd.snd.snd.snd.snd.snd.snd.snd.snd.fst t1.snd.snd.snd.snd.snd.snd.snd.snd.snd.snd.snd.fst t1.snd.snd.snd.snd.snd.snd.snd.snd.snd.snd.snd.snd.fst t1.snd.snd.snd.snd.snd.snd.snd.snd.snd.snd.snd.snd.snd.fst t1.snd.snd.snd.snd.snd.snd.snd.snd.snd.snd.snd.snd.snd.snd.fst t1.snd.snd.snd.snd.snd.snd.snd.snd.snd.snd.snd.snd.snd.snd.snd.fst).bind fun t2 => (if t2 ≠ 0 then some false else (if t1.fst ≠ a0_0 then some false else (if t1.snd.fst ≠ a0_1 then some false else (if t1.snd.snd.snd.snd.snd.fst ≠ a0_5 then some false else (if t1.snd.snd.snd.snd.snd.snd.fst ≠ a0_6 then some false else (if t1.snd.snd.snd.snd.snd.snd.snd.fst ≠ a0_7 then some false else (if t1.snd.snd.snd.snd.snd.snd.snd.snd.fst ≠ a0_8 then some false else (if t1.snd.snd.snd.snd.snd.snd.snd.snd.snd.snd.snd.snd.fst ≠ a0_12 then some false else (if t1.snd.snd.snd.snd.snd.snd.snd.snd.snd.snd.snd.snd.snd.fst ≠ a0_13 then some false else (if t1.snd.snd.snd.snd.snd.snd.snd.snd.snd.snd.snd.snd.snd.snd.fst ≠ a0_14 then some false else ((vespersref07_With.f a0_0 a0_1 a0_2 a0_3 a0_4 a0_5 a0_6 a0_7 a0_8 a0_9 a0_10 a0_11 a0_12 a0_13 a0_14 a0_15 (wrap64 (t1.snd.snd.fst - 1))).bind fun t3 => (if t1.snd.snd.fst > 1 then ((plan_Fails.f t3.fst t3.snd.fst t3.snd.snd.fst t3.snd.snd.snd.fst t3.snd.snd.snd.snd.fst t3.snd.snd.snd.snd.snd.fst t3.snd.snd.snd.snd.snd.snd.fst t3.snd.snd.snd.snd.snd.snd.snd.fst t3.snd.snd.snd.snd.snd.snd.snd.snd.fst t3.snd.snd.snd.snd.snd.snd.snd.snd.snd.fst t3.snd.snd.snd.snd.snd.snd.snd.snd.snd.snd.fst t3.snd.snd.snd.snd.snd.snd.snd.snd.snd.snd.snd.fst t3.snd.snd.snd.snd.snd.snd.snd.snd.snd.snd.snd.snd.fst t3.snd.snd.snd.snd.snd.snd.snd.snd.snd.snd.snd.snd.snd.fst t3.snd.snd.snd.snd.snd.snd.snd.snd.snd.snd.snd.snd.snd.snd.fst t3.snd.snd.snd.snd.snd.snd.snd.snd.snd.snd.snd.snd.snd.snd.snd).bind fun t4 => (if t4 = 0 then some false else (if t0 = true then ((plan_Fails.f t1.fst t1.snd.fst t1.snd.snd.fst t1.snd.snd.snd.fst t1.snd.snd.snd.snd.fst t1.snd.snd.snd.snd.snd.fst t1.snd.snd.snd.snd.snd.snd.fst t1.snd.snd.snd.snd.snd.snd.snd.fst t1.snd.snd.snd.snd.snd.snd.snd.snd.fst t1.snd.snd.snd.snd.snd.snd.snd.snd.snd.fst t1.snd.snd.snd.snd.snd.snd.snd.snd.snd.snd.fst t1.snd.snd.snd.snd.snd.snd.snd.snd.snd.snd.snd.fst t1.snd.snd.snd.snd.snd.snd.snd.snd.snd.snd.snd.snd.fst t1.snd.snd.snd.snd.snd.snd.snd.snd.snd.snd.snd.snd.snd.fst t1.snd.snd.snd.snd.snd.snd.snd.snd.snd.snd.snd.snd.snd.snd.fst a1).bind fun t5 => ((plan_Round.f t1.fst t1.snd.fst t1.snd.snd.fst t1.snd.snd.snd.fst t1.snd.snd.snd.snd.fst t1.snd.snd.snd.snd.snd.fst t1.snd.snd.snd.snd.snd.snd.fst t1.snd.snd.snd.snd.snd.snd.snd.fst t1.snd.snd.snd.snd.snd.snd.snd.snd.fst t1.snd.snd.snd.snd.snd.snd.snd.snd.snd.fst t1.snd.snd.snd.snd.snd.snd.snd.snd.snd.snd.fst t1.snd.snd.snd.snd.snd.snd.snd.snd.snd.snd.snd.fst t1.snd.snd.snd.snd.snd.snd.snd.snd.snd.snd.snd.snd.fst t1.snd.snd.snd.snd.snd.snd.snd.snd.snd.snd.snd.snd.snd.fst t1.snd.snd.snd.snd.snd.snd.snd.snd.snd.snd.snd.snd.snd.snd.fst a1).bind fun t6 => (if a1 ≥ wrap64 (40 * t6) then some (decide (t5 = 0) == decide (a1 ≤ 2147483648)) else some (decide (t5 = 0) == false)))) else some false))) else (if t0 = true then ((plan_Fails.f t1.fst t1.snd.fst t1.snd.snd.fst t1.snd.snd.snd.fst t1.snd.snd.snd.snd.fst t1.snd.snd.snd.snd.snd.fst t1.snd.snd.snd.snd.snd.snd.fst t1.snd.snd.snd.snd.snd.snd.snd.fst t1.snd.snd.snd.snd.snd.snd.snd.snd.fst t1.snd.snd.snd.snd.snd.snd.snd.snd.snd.fst t1.snd.snd.snd.snd.snd.snd.snd.snd.snd.snd.fst t1.snd.snd.snd.snd.snd.snd.snd.snd.snd.snd.snd.fst t1.snd.snd.snd.snd.snd.snd.snd.snd.snd.snd.snd.snd.fst t1.snd.snd.snd.snd.snd.snd.snd.snd.snd.snd.snd.snd.snd.fst t1.snd.snd.snd.snd.snd.snd.snd.snd.snd.snd.snd.snd.snd.snd.fst a1).bind fun t4 => ((plan_Round.f t1.fst t1.snd.fst t1.snd.snd.fst t1.snd.snd.snd.fst t1.snd.snd.snd.snd.fst t1.snd.snd.snd.snd.snd.fst t1.snd.snd.snd.snd.snd.snd.fst t1.snd.snd.snd.snd.snd.snd.snd.fst t1.snd.snd.snd.snd.snd.snd.snd.snd.fst t1.snd.snd.snd.snd.snd.snd.snd.snd.snd.fst t1.snd.snd.snd.snd.snd.snd.snd.snd.snd.snd.fst t1.snd.snd.snd.snd.snd.snd.snd.snd.snd.snd.snd.fst t1.snd.snd.snd.snd.snd.snd.snd.snd.snd.snd.snd.snd.fst t1.snd.snd.snd.snd.snd.snd.snd.snd.snd.snd.snd.snd.snd.fst t1.snd.snd.snd.snd.snd.snd.snd.snd.snd.snd.snd.snd.snd.snd.fst a1).bind fun t5 => (if a1 ≥ wrap64 (40 * t5) then some (decide (t4 = 0) == decide (a1 ≤ 2147483648)) else some (decide (t4 = 0) == false)))) else some false)))))))))))))))))
set_option maxRecDepth 100000 in
theorem vesperslaw07_PlanLeast.calls (a0_0 : Int) (a0_1 : Int) (a0_2 : Int) (a0_3 : Int) (a0_4 : Int) (a0_5 : Int) (a0_6 : Int) (a0_7 : Int) (a0_8 : Int) (a0_9 : Int) (a0_10 : Int) (a0_11 : Int) (a0_12 : Int) (a0_13 : Int) (a0_14 : Int) (a0_15 : Int) (a1 : Int) (r : Bool) (w : World) (h : vesperslaw07_PlanLeast.f a0_0 a0_1 a0_2 a0_3 a0_4 a0_5 a0_6 a0_7 a0_8 a0_9 a0_10 a0_11 a0_12 a0_13 a0_14 a0_15 a1 = some r) :
    Calls Try.prog 6 #[.agg #[.int .i64 a0_0, .int .i64 a0_1, .int .i64 a0_2, .int .i64 a0_3, .int .i64 a0_4, .int .i64 a0_5, .int .i64 a0_6, .int .i64 a0_7, .int .i64 a0_8, .int .i64 a0_9, .int .i64 a0_10, .int .i64 a0_11, .int .i64 a0_12, .int .i64 a0_13, .int .i64 a0_14, .int .i64 a0_15], .int .i64 a1] w fun e w' => e = .returned (.bool r) ∧ Below w.heap.size w w' := by
  have ht : (walk Try.prog (ctOf t_vesperslaw07_PlanFits) noL 100000 6 [.agg [.int .i64 (.s a0_0), .int .i64 (.s a0_1), .int .i64 (.s a0_2), .int .i64 (.s a0_3), .int .i64 (.s a0_4), .int .i64 (.s a0_5), .int .i64 (.s a0_6), .int .i64 (.s a0_7), .int .i64 (.s a0_8), .int .i64 (.s a0_9), .int .i64 (.s a0_10), .int .i64 (.s a0_11), .int .i64 (.s a0_12), .int .i64 (.s a0_13), .int .i64 (.s a0_14), .int .i64 (.s a0_15)], .int .i64 (.s a1)] [] 0).opt r_bool.dec = vesperslaw07_PlanLeast.f a0_0 a0_1 a0_2 a0_3 a0_4 a0_5 a0_6 a0_7 a0_8 a0_9 a0_10 a0_11 a0_12 a0_13 a0_14 a0_15 a1 := by kernel_rfl
  exact calls_of named mixed t_vesperslaw07_PlanFits_ok.ct noL_ok ht h (by kernel_rfl) (by kernel_rfl) w fun _ _ _ _ _ hd hx => r_bool.ok hd hx
noncomputable def vesperslaw07_PlanLeast.c : Entry := fun args _ => g_i64x16 args fun a0_0 a0_1 a0_2 a0_3 a0_4 a0_5 a0_6 a0_7 a0_8 a0_9 a0_10 a0_11 a0_12 a0_13 a0_14 a0_15 args => aI .i64 args fun a1 args => aN args (some { o := vesperslaw07_PlanLeast.f a0_0 a0_1 a0_2 a0_3 a0_4 a0_5 a0_6 a0_7 a0_8 a0_9 a0_10 a0_11 a0_12 a0_13 a0_14 a0_15 a1, enc := r_bool.enc })
theorem vesperslaw07_PlanLeast.ok : EntryOK Try.prog 6 vesperslaw07_PlanLeast.c := by
  intro args H c h r hr ρ hn w xs hx hrel
  unfold vesperslaw07_PlanLeast.c at h
  obtain ⟨a0_0, a0_1, a0_2, a0_3, a0_4, a0_5, a0_6, a0_7, a0_8, a0_9, a0_10, a0_11, a0_12, a0_13, a0_14, a0_15, xs, args, rfl, hx, h⟩ := g_i64x16_ok h hx
  obtain ⟨a1, xs, args, rfl, hx, h⟩ := aI_ok h hx
  obtain ⟨rfl, h⟩ := aN_ok h hx
  cases h
  refine (vesperslaw07_PlanLeast.calls a0_0 a0_1 a0_2 a0_3 a0_4 a0_5 a0_6 a0_7 a0_8 a0_9 a0_10 a0_11 a0_12 a0_13 a0_14 a0_15 a1 r w hr).mono ?_
  rintro e w' ⟨rfl, hb⟩
  exact ⟨_, rfl, r_bool.enc_rel ρ r, hrel.below hb, Eff.of_below hb⟩
noncomputable def t_vesperslaw07_PlanLeast : List (Nat × Entry) := (6, vesperslaw07_PlanLeast.c) :: t_vesperslaw07_PlanFits
theorem t_vesperslaw07_PlanLeast_ok : TabOK Try.prog t_vesperslaw07_PlanLeast := TabOK.cons vesperslaw07_PlanLeast.ok t_vesperslaw07_PlanFits_ok
/-- The pure statement of vesperslaw07_PlanFits. -/
def vesperslaw07_PlanFits.Pure : Prop := ∀ (a0_0 : Int) (a0_1 : Int) (a0_2 : Int) (a0_3 : Int) (a0_4 : Int) (a0_5 : Int) (a0_6 : Int) (a0_7 : Int) (a0_8 : Int) (a0_9 : Int) (a0_10 : Int) (a0_11 : Int) (a0_12 : Int) (a0_13 : Int) (a0_14 : Int) (a0_15 : Int), (Lit.int .i64 a0_0).wf = true → (Lit.int .i64 a0_1).wf = true → (Lit.int .i64 a0_2).wf = true → (Lit.int .i64 a0_3).wf = true → (Lit.int .i64 a0_4).wf = true → (Lit.int .i64 a0_5).wf = true → (Lit.int .i64 a0_6).wf = true → (Lit.int .i64 a0_7).wf = true → (Lit.int .i64 a0_8).wf = true → (Lit.int .i64 a0_9).wf = true → (Lit.int .i64 a0_10).wf = true → (Lit.int .i64 a0_11).wf = true → (Lit.int .i64 a0_12).wf = true → (Lit.int .i64 a0_13).wf = true → (Lit.int .i64 a0_14).wf = true → (Lit.int .i64 a0_15).wf = true → vesperslaw07_PlanFits.f a0_0 a0_1 a0_2 a0_3 a0_4 a0_5 a0_6 a0_7 a0_8 a0_9 a0_10 a0_11 a0_12 a0_13 a0_14 a0_15 = some true
theorem vesperslaw07_PlanFits.walk (P : vesperslaw07_PlanFits.Pure) (a0_0 : Int) (a0_1 : Int) (a0_2 : Int) (a0_3 : Int) (a0_4 : Int) (a0_5 : Int) (a0_6 : Int) (a0_7 : Int) (a0_8 : Int) (a0_9 : Int) (a0_10 : Int) (a0_11 : Int) (a0_12 : Int) (a0_13 : Int) (a0_14 : Int) (a0_15 : Int) (w : World) (w0_0 : (Lit.int .i64 a0_0).wf = true) (w0_1 : (Lit.int .i64 a0_1).wf = true) (w0_2 : (Lit.int .i64 a0_2).wf = true) (w0_3 : (Lit.int .i64 a0_3).wf = true) (w0_4 : (Lit.int .i64 a0_4).wf = true) (w0_5 : (Lit.int .i64 a0_5).wf = true) (w0_6 : (Lit.int .i64 a0_6).wf = true) (w0_7 : (Lit.int .i64 a0_7).wf = true) (w0_8 : (Lit.int .i64 a0_8).wf = true) (w0_9 : (Lit.int .i64 a0_9).wf = true) (w0_10 : (Lit.int .i64 a0_10).wf = true) (w0_11 : (Lit.int .i64 a0_11).wf = true) (w0_12 : (Lit.int .i64 a0_12).wf = true) (w0_13 : (Lit.int .i64 a0_13).wf = true) (w0_14 : (Lit.int .i64 a0_14).wf = true) (w0_15 : (Lit.int .i64 a0_15).wf = true) :
    Calls Try.prog 4 #[.agg #[.int .i64 a0_0, .int .i64 a0_1, .int .i64 a0_2, .int .i64 a0_3, .int .i64 a0_4, .int .i64 a0_5, .int .i64 a0_6, .int .i64 a0_7, .int .i64 a0_8, .int .i64 a0_9, .int .i64 a0_10, .int .i64 a0_11, .int .i64 a0_12, .int .i64 a0_13, .int .i64 a0_14, .int .i64 a0_15]] w fun e w' => e = .returned (.bool true) ∧ Below w.heap.size w w' :=
  vesperslaw07_PlanFits.calls a0_0 a0_1 a0_2 a0_3 a0_4 a0_5 a0_6 a0_7 a0_8 a0_9 a0_10 a0_11 a0_12 a0_13 a0_14 a0_15 true w (P a0_0 a0_1 a0_2 a0_3 a0_4 a0_5 a0_6 a0_7 a0_8 a0_9 a0_10 a0_11 a0_12 a0_13 a0_14 a0_15 w0_0 w0_1 w0_2 w0_3 w0_4 w0_5 w0_6 w0_7 w0_8 w0_9 w0_10 w0_11 w0_12 w0_13 w0_14 w0_15)
/-- The pure statement of vesperslaw07_PlanLeast. -/
def vesperslaw07_PlanLeast.Pure : Prop := ∀ (a0_0 : Int) (a0_1 : Int) (a0_2 : Int) (a0_3 : Int) (a0_4 : Int) (a0_5 : Int) (a0_6 : Int) (a0_7 : Int) (a0_8 : Int) (a0_9 : Int) (a0_10 : Int) (a0_11 : Int) (a0_12 : Int) (a0_13 : Int) (a0_14 : Int) (a0_15 : Int) (a1 : Int), (Lit.int .i64 a0_0).wf = true → (Lit.int .i64 a0_1).wf = true → (Lit.int .i64 a0_2).wf = true → (Lit.int .i64 a0_3).wf = true → (Lit.int .i64 a0_4).wf = true → (Lit.int .i64 a0_5).wf = true → (Lit.int .i64 a0_6).wf = true → (Lit.int .i64 a0_7).wf = true → (Lit.int .i64 a0_8).wf = true → (Lit.int .i64 a0_9).wf = true → (Lit.int .i64 a0_10).wf = true → (Lit.int .i64 a0_11).wf = true → (Lit.int .i64 a0_12).wf = true → (Lit.int .i64 a0_13).wf = true → (Lit.int .i64 a0_14).wf = true → (Lit.int .i64 a0_15).wf = true → (Lit.int .i64 a1).wf = true → vesperslaw07_PlanLeast.f a0_0 a0_1 a0_2 a0_3 a0_4 a0_5 a0_6 a0_7 a0_8 a0_9 a0_10 a0_11 a0_12 a0_13 a0_14 a0_15 a1 = some true
theorem vesperslaw07_PlanLeast.walk (P : vesperslaw07_PlanLeast.Pure) (a0_0 : Int) (a0_1 : Int) (a0_2 : Int) (a0_3 : Int) (a0_4 : Int) (a0_5 : Int) (a0_6 : Int) (a0_7 : Int) (a0_8 : Int) (a0_9 : Int) (a0_10 : Int) (a0_11 : Int) (a0_12 : Int) (a0_13 : Int) (a0_14 : Int) (a0_15 : Int) (a1 : Int) (w : World) (w0_0 : (Lit.int .i64 a0_0).wf = true) (w0_1 : (Lit.int .i64 a0_1).wf = true) (w0_2 : (Lit.int .i64 a0_2).wf = true) (w0_3 : (Lit.int .i64 a0_3).wf = true) (w0_4 : (Lit.int .i64 a0_4).wf = true) (w0_5 : (Lit.int .i64 a0_5).wf = true) (w0_6 : (Lit.int .i64 a0_6).wf = true) (w0_7 : (Lit.int .i64 a0_7).wf = true) (w0_8 : (Lit.int .i64 a0_8).wf = true) (w0_9 : (Lit.int .i64 a0_9).wf = true) (w0_10 : (Lit.int .i64 a0_10).wf = true) (w0_11 : (Lit.int .i64 a0_11).wf = true) (w0_12 : (Lit.int .i64 a0_12).wf = true) (w0_13 : (Lit.int .i64 a0_13).wf = true) (w0_14 : (Lit.int .i64 a0_14).wf = true) (w0_15 : (Lit.int .i64 a0_15).wf = true) (w1 : (Lit.int .i64 a1).wf = true) :
    Calls Try.prog 6 #[.agg #[.int .i64 a0_0, .int .i64 a0_1, .int .i64 a0_2, .int .i64 a0_3, .int .i64 a0_4, .int .i64 a0_5, .int .i64 a0_6, .int .i64 a0_7, .int .i64 a0_8, .int .i64 a0_9, .int .i64 a0_10, .int .i64 a0_11, .int .i64 a0_12, .int .i64 a0_13, .int .i64 a0_14, .int .i64 a0_15], .int .i64 a1] w fun e w' => e = .returned (.bool true) ∧ Below w.heap.size w w' :=
  vesperslaw07_PlanLeast.calls a0_0 a0_1 a0_2 a0_3 a0_4 a0_5 a0_6 a0_7 a0_8 a0_9 a0_10 a0_11 a0_12 a0_13 a0_14 a0_15 a1 true w (P a0_0 a0_1 a0_2 a0_3 a0_4 a0_5 a0_6 a0_7 a0_8 a0_9 a0_10 a0_11 a0_12 a0_13 a0_14 a0_15 a1 w0_0 w0_1 w0_2 w0_3 w0_4 w0_5 w0_6 w0_7 w0_8 w0_9 w0_10 w0_11 w0_12 w0_13 w0_14 w0_15 w1)
noncomputable abbrev tab_S1 : List (Nat × Entry) := t_vesperslaw07_PlanLeast
theorem tab_S1_ok : TabOK Try.prog tab_S1 := t_vesperslaw07_PlanLeast_ok
end
end Go.Proofs.Ytomombhiganjpaa.S
