/- Contracts by the symbolic walk: vesperslaw12_some. -/
import Derived.Test.YtaoejfbehlpbdaaProg
import Derived.Test.YtaoejfbehlpbdaaSXo
namespace Go.Proofs.Ytaoejfbehlpbdaa.S
open Go Go.RowKit Go.Proofs.Ytaoejfbehlpbdaa.SX Go.Proofs
set_option linter.unusedVariables false
noncomputable section
theorem named : Named Try.prog := by
  intro f fn h
  have hall : (Try.prog.funcs.toList.all fun fn => !(fn.name == "runtime.NumGoroutine")) = true := by kernel_rfl
  have := List.all_eq_true.1 hall fn (List.mem_of_getElem? (show Try.prog.funcs.toList[f]? = some fn by simpa using h))
  simpa using this
theorem mixed : Try.prog.follows .mixedOrders = true := by kernel_rfl
def r_i64x16.dec : AV → Heap → Nat → Option (Int × Int × Int × Int × Int × Int × Int × Int × Int × Int × Int × Int × Int × Int × Int × Int)
  | .agg [x0, x1, x2, x3, x4, x5, x6, x7, x8, x9, x10, x11, x12, x13, x14, x15], _, _ => (dI .i64 x0).bind fun n0 => (dI .i64 x1).bind fun n1 => (dI .i64 x2).bind fun n2 => (dI .i64 x3).bind fun n3 => (dI .i64 x4).bind fun n4 => (dI .i64 x5).bind fun n5 => (dI .i64 x6).bind fun n6 => (dI .i64 x7).bind fun n7 => (dI .i64 x8).bind fun n8 => (dI .i64 x9).bind fun n9 => (dI .i64 x10).bind fun n10 => (dI .i64 x11).bind fun n11 => (dI .i64 x12).bind fun n12 => (dI .i64 x13).bind fun n13 => (dI .i64 x14).bind fun n14 => (dI .i64 x15).bind fun n15 => some (n0, n1, n2, n3, n4, n5, n6, n7, n8, n9, n10, n11, n12, n13, n14, n15)
  | _, _, _ => none
def r_i64x16.enc (r : Int × Int × Int × Int × Int × Int × Int × Int × Int × Int × Int × Int × Int × Int × Int × Int) : AV := .agg [.int .i64 (.s r.1), .int .i64 (.s r.2.1), .int .i64 (.s r.2.2.1), .int .i64 (.s r.2.2.2.1), .int .i64 (.s r.2.2.2.2.1), .int .i64 (.s r.2.2.2.2.2.1), .int .i64 (.s r.2.2.2.2.2.2.1), .int .i64 (.s r.2.2.2.2.2.2.2.1), .int .i64 (.s r.2.2.2.2.2.2.2.2.1), .int .i64 (.s r.2.2.2.2.2.2.2.2.2.1), .int .i64 (.s r.2.2.2.2.2.2.2.2.2.2.1), .int .i64 (.s r.2.2.2.2.2.2.2.2.2.2.2.1), .int .i64 (.s r.2.2.2.2.2.2.2.2.2.2.2.2.1), .int .i64 (.s r.2.2.2.2.2.2.2.2.2.2.2.2.2.1), .int .i64 (.s r.2.2.2.2.2.2.2.2.2.2.2.2.2.2.1), .int .i64 (.s r.2.2.2.2.2.2.2.2.2.2.2.2.2.2.2)]
abbrev r_i64x16.val (r : Int × Int × Int × Int × Int × Int × Int × Int × Int × Int × Int × Int × Int × Int × Int × Int) : Value := .agg #[.int .i64 r.1, .int .i64 r.2.1, .int .i64 r.2.2.1, .int .i64 r.2.2.2.1, .int .i64 r.2.2.2.2.1, .int .i64 r.2.2.2.2.2.1, .int .i64 r.2.2.2.2.2.2.1, .int .i64 r.2.2.2.2.2.2.2.1, .int .i64 r.2.2.2.2.2.2.2.2.1, .int .i64 r.2.2.2.2.2.2.2.2.2.1, .int .i64 r.2.2.2.2.2.2.2.2.2.2.1, .int .i64 r.2.2.2.2.2.2.2.2.2.2.2.1, .int .i64 r.2.2.2.2.2.2.2.2.2.2.2.2.1, .int .i64 r.2.2.2.2.2.2.2.2.2.2.2.2.2.1, .int .i64 r.2.2.2.2.2.2.2.2.2.2.2.2.2.2.1, .int .i64 r.2.2.2.2.2.2.2.2.2.2.2.2.2.2.2]
theorem r_i64x16.enc_rel (ρ : Pl) (r : Int × Int × Int × Int × Int × Int × Int × Int × Int × Int × Int × Int × Int × Int × Int × Int) : (r_i64x16.enc r).rel ρ (r_i64x16.val r) := AV.flat_rel _ rfl
theorem r_i64x16.ok {v : AV} {H : Heap} {hn : Nat} {r : Int × Int × Int × Int × Int × Int × Int × Int × Int × Int × Int × Int × Int × Int × Int × Int} {ρ : Pl} {x : Value} (h : r_i64x16.dec v H hn = some r) (hx : v.rel ρ x) : x = r_i64x16.val r := by
  unfold r_i64x16.dec at h
  split at h
  · obtain ⟨n0, e0, h⟩ := Option.bind_eq_some_iff.1 h
    obtain ⟨n1, e1, h⟩ := Option.bind_eq_some_iff.1 h
    obtain ⟨n2, e2, h⟩ := Option.bind_eq_some_iff.1 h
    obtain ⟨n3, e3, h⟩ := Option.bind_eq_some_iff.1 h
    obtain ⟨n4, e4, h⟩ := Option.bind_eq_some_iff.1 h
    obtain ⟨n5, e5, h⟩ := Option.bind_eq_some_iff.1 h
    obtain ⟨n6, e6, h⟩ := Option.bind_eq_some_iff.1 h
    obtain ⟨n7, e7, h⟩ := Option.bind_eq_some_iff.1 h
    obtain ⟨n8, e8, h⟩ := Option.bind_eq_some_iff.1 h
    obtain ⟨n9, e9, h⟩ := Option.bind_eq_some_iff.1 h
    obtain ⟨n10, e10, h⟩ := Option.bind_eq_some_iff.1 h
    obtain ⟨n11, e11, h⟩ := Option.bind_eq_some_iff.1 h
    obtain ⟨n12, e12, h⟩ := Option.bind_eq_some_iff.1 h
    obtain ⟨n13, e13, h⟩ := Option.bind_eq_some_iff.1 h
    obtain ⟨n14, e14, h⟩ := Option.bind_eq_some_iff.1 h
    obtain ⟨n15, e15, h⟩ := Option.bind_eq_some_iff.1 h
    cases h
    obtain ⟨z, hx, rfl⟩ := hx
    obtain ⟨y1, y2, hy1, hx, rfl⟩ := hx
    obtain rfl := dI_ok e0 hy1
    obtain ⟨y3, y4, hy3, hx, rfl⟩ := hx
    obtain rfl := dI_ok e1 hy3
    obtain ⟨y5, y6, hy5, hx, rfl⟩ := hx
    obtain rfl := dI_ok e2 hy5
    obtain ⟨y7, y8, hy7, hx, rfl⟩ := hx
    obtain rfl := dI_ok e3 hy7
    obtain ⟨y9, y10, hy9, hx, rfl⟩ := hx
    obtain rfl := dI_ok e4 hy9
    obtain ⟨y11, y12, hy11, hx, rfl⟩ := hx
    obtain rfl := dI_ok e5 hy11
    obtain ⟨y13, y14, hy13, hx, rfl⟩ := hx
    obtain rfl := dI_ok e6 hy13
    obtain ⟨y15, y16, hy15, hx, rfl⟩ := hx
    obtain rfl := dI_ok e7 hy15
    obtain ⟨y17, y18, hy17, hx, rfl⟩ := hx
    obtain rfl := dI_ok e8 hy17
    obtain ⟨y19, y20, hy19, hx, rfl⟩ := hx
    obtain rfl := dI_ok e9 hy19
    obtain ⟨y21, y22, hy21, hx, rfl⟩ := hx
    obtain rfl := dI_ok e10 hy21
    obtain ⟨y23, y24, hy23, hx, rfl⟩ := hx
    obtain rfl := dI_ok e11 hy23
    obtain ⟨y25, y26, hy25, hx, rfl⟩ := hx
    obtain rfl := dI_ok e12 hy25
    obtain ⟨y27, y28, hy27, hx, rfl⟩ := hx
    obtain rfl := dI_ok e13 hy27
    obtain ⟨y29, y30, hy29, hx, rfl⟩ := hx
    obtain rfl := dI_ok e14 hy29
    obtain ⟨y31, y32, hy31, hx, rfl⟩ := hx
    obtain rfl := dI_ok e15 hy31
    obtain rfl := (show _ = [] from hx)
    rfl
  · cases h
def vesperslaw12_some.f  : Option (Int × Int × Int × Int × Int × Int × Int × Int × Int × Int × Int × Int × Int × Int × Int × Int) :=
  some (4, 1, 512, 248, 96, 1, 1, 3, 100000, 88, 64, 10416, 2, 1, 4, 81920)
set_option maxRecDepth 100000 in
theorem vesperslaw12_some.calls (r1 : Int) (r2 : Int) (r3 : Int) (r4 : Int) (r5 : Int) (r6 : Int) (r7 : Int) (r8 : Int) (r9 : Int) (r10 : Int) (r11 : Int) (r12 : Int) (r13 : Int) (r14 : Int) (r15 : Int) (r16 : Int) (w : World) (h : vesperslaw12_some.f = some (r1, r2, r3, r4, r5, r6, r7, r8, r9, r10, r11, r12, r13, r14, r15, r16)) :
    Calls Try.prog 24 #[] w fun e w' => e = .returned (.agg #[.int .i64 r1, .int .i64 r2, .int .i64 r3, .int .i64 r4, .int .i64 r5, .int .i64 r6, .int .i64 r7, .int .i64 r8, .int .i64 r9, .int .i64 r10, .int .i64 r11, .int .i64 r12, .int .i64 r13, .int .i64 r14, .int .i64 r15, .int .i64 r16]) ∧ Below w.heap.size w w' := by
  have ht : (walk Try.prog (ctOf []) noL 100000 24 [] [] 0).opt r_i64x16.dec = vesperslaw12_some.f := by kernel_rfl
  exact calls_of named mixed (TabOK.nil).ct noL_ok ht h (by kernel_rfl) (by kernel_rfl) w fun _ _ _ _ _ hd hx => r_i64x16.ok hd hx
noncomputable def vesperslaw12_some.c : Entry := fun args _ _ => aN args (some { o := (some () : Option Unit), enc := fun _ => .agg [.int .i64 (.c 4), .int .i64 (.c 1), .int .i64 (.c 512), .int .i64 (.c 248), .int .i64 (.c 96), .int .i64 (.c 1), .int .i64 (.c 1), .int .i64 (.c 3), .int .i64 (.c 100000), .int .i64 (.c 88), .int .i64 (.c 64), .int .i64 (.c 10416), .int .i64 (.c 2), .int .i64 (.c 1), .int .i64 (.c 4), .int .i64 (.c 81920)] })
theorem vesperslaw12_some.ok : EntryOK Try.prog 24 vesperslaw12_some.c := by
  intro args H hn c h _ r hr ρ w xs hx hrel
  unfold vesperslaw12_some.c at h
  obtain ⟨rfl, h⟩ := aN_ok h hx
  cases h
  refine (vesperslaw12_some.calls 4 1 512 248 96 1 1 3 100000 88 64 10416 2 1 4 81920 w rfl).mono ?_
  rintro e w' ⟨rfl, hb⟩
  exact ⟨_, ρ, rfl, AV.flat_rel _ rfl, ⟨rfl, hrel.below hb⟩, Eff.of_below hb, fun _ h => by cases h⟩
noncomputable def t_vesperslaw12_some : List (Nat × Entry) := (24, vesperslaw12_some.c) :: []
theorem t_vesperslaw12_some_ok : TabOK Try.prog t_vesperslaw12_some := TabOK.cons vesperslaw12_some.ok TabOK.nil
noncomputable abbrev tab_SC : List (Nat × Entry) := t_vesperslaw12_some
theorem tab_SC_ok : TabOK Try.prog tab_SC := t_vesperslaw12_some_ok
end
end Go.Proofs.Ytaoejfbehlpbdaa.S
