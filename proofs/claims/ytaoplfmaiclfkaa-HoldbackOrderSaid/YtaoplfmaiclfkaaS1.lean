/- Contracts by the symbolic walk: cmp_Compare_int64, cmp_Compare_int, vesperslaw24_some. -/
import Derived.Test.YtaoplfmaiclfkaaProg
import Derived.Test.YtaoplfmaiclfkaaSXo
import Derived.Test.YtaoplfmaiclfkaaS0
namespace Go.Proofs.Ytaoplfmaiclfkaa.S
open Go Go.RowKit Go.Proofs.Ytaoplfmaiclfkaa.SX Go.Proofs
set_option linter.unusedVariables false
noncomputable section
def cmp_Compare_int64.f (a0 : Int) (a1 : Int) : Option Int :=
  (if a0 ≠ a0 then (if a1 ≠ a1 then some 0 else some (-1)) else (if a1 ≠ a1 then some 1 else (if a0 < a1 then some (-1) else (if a0 > a1 then some 1 else some 0))))
set_option maxRecDepth 100000 in
theorem cmp_Compare_int64.calls (a0 : Int) (a1 : Int) (r : Int) (w : World) (h : cmp_Compare_int64.f a0 a1 = some r) :
    Calls Try.prog 40 #[.int .i64 a0, .int .i64 a1] w fun e w' => e = .returned (.int .i64 r) ∧ Below w.heap.size w w' := by
  have ht : (walk Try.prog (ctOf tab_S0) noL 100000 40 [.int .i64 (.s a0), .int .i64 (.s a1)] [] 0).opt r_i64.dec = cmp_Compare_int64.f a0 a1 := by kernel_rfl
  exact calls_of named mixed tab_S0_ok.ct noL_ok ht h (by kernel_rfl) (by kernel_rfl) w fun _ _ _ _ _ hd hx => r_i64.ok hd hx
noncomputable def cmp_Compare_int64.c : Entry := fun args _ _ => aI .i64 args fun a0 args => aI .i64 args fun a1 args => aN args (some { o := cmp_Compare_int64.f a0 a1, enc := r_i64.enc })
theorem cmp_Compare_int64.ok : EntryOK Try.prog 40 cmp_Compare_int64.c := by
  intro args H hn c h _ r hr ρ w xs hx hrel
  unfold cmp_Compare_int64.c at h
  obtain ⟨a0, xs, args, rfl, hx, h⟩ := aI_ok h hx
  obtain ⟨a1, xs, args, rfl, hx, h⟩ := aI_ok h hx
  obtain ⟨rfl, h⟩ := aN_ok h hx
  cases h
  refine (cmp_Compare_int64.calls a0 a1 r w hr).mono ?_
  rintro e w' ⟨rfl, hb⟩
  exact ⟨_, ρ, rfl, r_i64.enc_rel ρ r, ⟨rfl, hrel.below hb⟩, Eff.of_below hb, fun _ h => by cases h⟩
noncomputable def t_cmp_Compare_int64 : List (Nat × Entry) := (40, cmp_Compare_int64.c) :: tab_S0
theorem t_cmp_Compare_int64_ok : TabOK Try.prog t_cmp_Compare_int64 := TabOK.cons cmp_Compare_int64.ok tab_S0_ok
def cmp_Compare_int.f (a0 : Int) (a1 : Int) : Option Int :=
  (if a0 ≠ a0 then (if a1 ≠ a1 then some 0 else some (-1)) else (if a1 ≠ a1 then some 1 else (if a0 < a1 then some (-1) else (if a0 > a1 then some 1 else some 0))))
set_option maxRecDepth 100000 in
theorem cmp_Compare_int.calls (a0 : Int) (a1 : Int) (r : Int) (w : World) (h : cmp_Compare_int.f a0 a1 = some r) :
    Calls Try.prog 41 #[.int .i64 a0, .int .i64 a1] w fun e w' => e = .returned (.int .i64 r) ∧ Below w.heap.size w w' := by
  have ht : (walk Try.prog (ctOf t_cmp_Compare_int64) noL 100000 41 [.int .i64 (.s a0), .int .i64 (.s a1)] [] 0).opt r_i64.dec = cmp_Compare_int.f a0 a1 := by kernel_rfl
  exact calls_of named mixed t_cmp_Compare_int64_ok.ct noL_ok ht h (by kernel_rfl) (by kernel_rfl) w fun _ _ _ _ _ hd hx => r_i64.ok hd hx
noncomputable def cmp_Compare_int.c : Entry := fun args _ _ => aI .i64 args fun a0 args => aI .i64 args fun a1 args => aN args (some { o := cmp_Compare_int.f a0 a1, enc := r_i64.enc })
theorem cmp_Compare_int.ok : EntryOK Try.prog 41 cmp_Compare_int.c := by
  intro args H hn c h _ r hr ρ w xs hx hrel
  unfold cmp_Compare_int.c at h
  obtain ⟨a0, xs, args, rfl, hx, h⟩ := aI_ok h hx
  obtain ⟨a1, xs, args, rfl, hx, h⟩ := aI_ok h hx
  obtain ⟨rfl, h⟩ := aN_ok h hx
  cases h
  refine (cmp_Compare_int.calls a0 a1 r w hr).mono ?_
  rintro e w' ⟨rfl, hb⟩
  exact ⟨_, ρ, rfl, r_i64.enc_rel ρ r, ⟨rfl, hrel.below hb⟩, Eff.of_below hb, fun _ h => by cases h⟩
noncomputable def t_cmp_Compare_int : List (Nat × Entry) := (41, cmp_Compare_int.c) :: t_cmp_Compare_int64
theorem t_cmp_Compare_int_ok : TabOK Try.prog t_cmp_Compare_int := TabOK.cons cmp_Compare_int.ok t_cmp_Compare_int64_ok
def r_i64x16.dec : AV → Heap → Nat → Option (Int × Int × Int × Int × Int × Int × Int × Int × Int × Int × Int × Int × Int × Int × Int × Int)
  | .agg [x0, x1, x2, x3, x4, x5, x6, x7, x8, x9, x10, x11, x12, x13, x14, x15], _, _ => (dI .i64 x0).bind fun n0 => (dI .i64 x1).bind fun n1 => (dI .i64 x2).bind fun n2 => (dI .i64 x3).bind fun n3 => (dI .i64 x4).bind fun n4 => (dI .i64 x5).bind fun n5 => (dI .i64 x6).bind fun n6 => (dI .i64 x7).bind fun n7 => (dI .i64 x8).bind fun n8 => (dI .i64 x9).bind fun n9 => (dI .i64 x10).bind fun n10 => (dI .i64 x11).bind fun n11 => (dI .i64 x12).bind fun n12 => (dI .i64 x13).bind fun n13 => (dI .i64 x14).bind fun n14 => (dI .i64 x15).bind fun n15 => some (n0, n1, n2, n3, n4, n5, n6, n7, n8, n9, n10, n11, n12, n13, n14, n15)
  | _, _, _ => none
def r_i64x16.enc (r : Int × Int × Int × Int × Int × Int × Int × Int × Int × Int × Int × Int × Int × Int × Int × Int) : AV := .agg [.int .i64 (.s r.1), .int .i64 (.s r.2.1), .int .i64 (.s r.2.2.1), .int .i64 (.s r.2.2.2.1), .int .i64 (.s r.2.2.2.2.1), .int .i64 (.s r.2.2.2.2.2.1), .int .i64 (.s r.2.2.2.2.2.2.1), .int .i64 (.s r.2.2.2.2.2.2.2.1), .int .i64 (.s r.2.2.2.2.2.2.2.2.1), .int .i64 (.s r.2.2.2.2.2.2.2.2.2.1), .int .i64 (.s r.2.2.2.2.2.2.2.2.2.2.1), .int .i64 (.s r.2.2.2.2.2.2.2.2.2.2.2.1), .int .i64 (.s r.2.2.2.2.2.2.2.2.2.2.2.2.1), .int .i64 (.s r.2.2.2.2.2.2.2.2.2.2.2.2.2.1), .int .i64 (.s r.2.2.2.2.2.2.2.2.2.2.2.2.2.2.1), .int .i64 (.s r.2.2.2.2.2.2.2.2.2.2.2.2.2.2.2)]
abbrev r_i64x16.val (r : Int × Int × Int × Int × Int × Int × Int × Int × Int × Int × Int × Int × Int × Int × Int × Int) : Value := .agg #[.int .i64 r.1, .int .i64 r.2.1, .int .i64 r.2.2.1, .int .i64 r.2.2.2.1, .int .i64 r.2.2.2.2.1, .int .i64 r.2.2.2.2.2.1, .int .i64 r.2.2.2.2.2.2.1, .int .i64 r.2.2.2.2.2.2.2.1, .int .i64 r.2.2.2.2.2.2.2.2.1, .int .i64 r.2.2.2.2.2.2.2.2.2.1, .int .i64 r.2.2.2.2.2.2.2.2.2.2.1, .int .i64 r.2.2.2.2.2.2.2.2.2.2.2.1, .int .i64 r.2.2.2.2.2.2.2.2.2.2.2.2.1, .int .i64 r.2.2.2.2.2.2.2.2.2.2.2.2.2.1, .int .i64 r.2.2.2.2.2.2.2.2.2.2.2.2.2.2.1, .int .i64 r.2.2.2.2.2.2.2.2.2.2.2.2.2.2.2]
theorem r_i64x16.enc_rel (ρ : Pl) (r : Int × Int × Int × Int × Int × Int × Int × Int × Int × Int × Int × Int × Int × Int × Int × Int) : (r_i64x16.enc r).rel ρ (r_i64x16.val r) := AV.flat_rel _ rfl
theorem r_i64x16.ok {v : AV} {H : Heap} {hn : Nat} {r : Int × Int × Int × Int × Int × Int × Int × Int × Int × Int × Int × Int × Int × Int × Int × Int} {ρ : Pl} {x : Value} (h : r_i64x16.dec v H hn = some r) (hx : v.rel ρ x) : x = r_i64x16.val r := by
  unfold r_i64x16.dec at h
  split at h
  · obtain ⟨n0, e0, h⟩ := Option.bind_eq_some_iff.1 h
    obtain ⟨n1, e1, h⟩ := Option.bind_eq_some_iff.1 h
    obtain ⟨n2, e2, h⟩ := Option.bind_eq_some_iff.1 h
    obtain ⟨n3, e3, h⟩ := Option.bind_eq_some_iff.1 h
    obtain ⟨n4, e4, h⟩ := Option.bind_eq_some_iff.1 h
    obtain ⟨n5, e5, h⟩ := Option.bind_eq_some_iff.1 h
    obtain ⟨n6, e6, h⟩ := Option.bind_eq_some_iff.1 h
    obtain ⟨n7, e7, h⟩ := Option.bind_eq_some_iff.1 h
    obtain ⟨n8, e8, h⟩ := Option.bind_eq_some_iff.1 h
    obtain ⟨n9, e9, h⟩ := Option.bind_eq_some_iff.1 h
    obtain ⟨n10, e10, h⟩ := Option.bind_eq_some_iff.1 h
    obtain ⟨n11, e11, h⟩ := Option.bind_eq_some_iff.1 h
    obtain ⟨n12, e12, h⟩ := Option.bind_eq_some_iff.1 h
    obtain ⟨n13, e13, h⟩ := Option.bind_eq_some_iff.1 h
    obtain ⟨n14, e14, h⟩ := Option.bind_eq_some_iff.1 h
    obtain ⟨n15, e15, h⟩ := Option.bind_eq_some_iff.1 h
    cases h
    obtain ⟨z, hx, rfl⟩ := hx
    obtain ⟨y1, y2, hy1, hx, rfl⟩ := hx
    obtain rfl := dI_ok e0 hy1
    obtain ⟨y3, y4, hy3, hx, rfl⟩ := hx
    obtain rfl := dI_ok e1 hy3
    obtain ⟨y5, y6, hy5, hx, rfl⟩ := hx
    obtain rfl := dI_ok e2 hy5
    obtain ⟨y7, y8, hy7, hx, rfl⟩ := hx
    obtain rfl := dI_ok e3 hy7
    obtain ⟨y9, y10, hy9, hx, rfl⟩ := hx
    obtain rfl := dI_ok e4 hy9
    obtain ⟨y11, y12, hy11, hx, rfl⟩ := hx
    obtain rfl := dI_ok e5 hy11
    obtain ⟨y13, y14, hy13, hx, rfl⟩ := hx
    obtain rfl := dI_ok e6 hy13
    obtain ⟨y15, y16, hy15, hx, rfl⟩ := hx
    obtain rfl := dI_ok e7 hy15
    obtain ⟨y17, y18, hy17, hx, rfl⟩ := hx
    obtain rfl := dI_ok e8 hy17
    obtain ⟨y19, y20, hy19, hx, rfl⟩ := hx
    obtain rfl := dI_ok e9 hy19
    obtain ⟨y21, y22, hy21, hx, rfl⟩ := hx
    obtain rfl := dI_ok e10 hy21
    obtain ⟨y23, y24, hy23, hx, rfl⟩ := hx
    obtain rfl := dI_ok e11 hy23
    obtain ⟨y25, y26, hy25, hx, rfl⟩ := hx
    obtain rfl := dI_ok e12 hy25
    obtain ⟨y27, y28, hy27, hx, rfl⟩ := hx
    obtain rfl := dI_ok e13 hy27
    obtain ⟨y29, y30, hy29, hx, rfl⟩ := hx
    obtain rfl := dI_ok e14 hy29
    obtain ⟨y31, y32, hy31, hx, rfl⟩ := hx
    obtain rfl := dI_ok e15 hy31
    obtain rfl := (show _ = [] from hx)
    rfl
  · cases h
def vesperslaw24_some.f  : Option (Int × Int × Int × Int × Int × Int × Int × Int × Int × Int × Int × Int × Int × Int × Int × Int) :=
  some (4, 1, 512, 248, 96, 1, 1, 3, 100000, 88, 64, 10416, 2, 1, 4, 81920)
set_option maxRecDepth 100000 in
theorem vesperslaw24_some.calls (r1 : Int) (r2 : Int) (r3 : Int) (r4 : Int) (r5 : Int) (r6 : Int) (r7 : Int) (r8 : Int) (r9 : Int) (r10 : Int) (r11 : Int) (r12 : Int) (r13 : Int) (r14 : Int) (r15 : Int) (r16 : Int) (w : World) (h : vesperslaw24_some.f = some (r1, r2, r3, r4, r5, r6, r7, r8, r9, r10, r11, r12, r13, r14, r15, r16)) :
    Calls Try.prog 29 #[] w fun e w' => e = .returned (.agg #[.int .i64 r1, .int .i64 r2, .int .i64 r3, .int .i64 r4, .int .i64 r5, .int .i64 r6, .int .i64 r7, .int .i64 r8, .int .i64 r9, .int .i64 r10, .int .i64 r11, .int .i64 r12, .int .i64 r13, .int .i64 r14, .int .i64 r15, .int .i64 r16]) ∧ Below w.heap.size w w' := by
  have ht : (walk Try.prog (ctOf []) noL 100000 29 [] [] 0).opt r_i64x16.dec = vesperslaw24_some.f := by kernel_rfl
  exact calls_of named mixed (TabOK.nil).ct noL_ok ht h (by kernel_rfl) (by kernel_rfl) w fun _ _ _ _ _ hd hx => r_i64x16.ok hd hx
noncomputable def vesperslaw24_some.c : Entry := fun args _ _ => aN args (some { o := vesperslaw24_some.f, enc := r_i64x16.enc })
theorem vesperslaw24_some.ok : EntryOK Try.prog 29 vesperslaw24_some.c := by
  intro args H hn c h _ r hr ρ w xs hx hrel
  unfold vesperslaw24_some.c at h
  obtain ⟨rfl, h⟩ := aN_ok h hx
  cases h
  obtain ⟨r1, r2, r3, r4, r5, r6, r7, r8, r9, r10, r11, r12, r13, r14, r15, r16⟩ := r
  refine (vesperslaw24_some.calls r1 r2 r3 r4 r5 r6 r7 r8 r9 r10 r11 r12 r13 r14 r15 r16 w hr).mono ?_
  rintro e w' ⟨rfl, hb⟩
  exact ⟨_, ρ, rfl, r_i64x16.enc_rel ρ (r1, r2, r3, r4, r5, r6, r7, r8, r9, r10, r11, r12, r13, r14, r15, r16), ⟨rfl, hrel.below hb⟩, Eff.of_below hb, fun _ h => by cases h⟩
noncomputable def t_vesperslaw24_some : List (Nat × Entry) := (29, vesperslaw24_some.c) :: t_cmp_Compare_int
theorem t_vesperslaw24_some_ok : TabOK Try.prog t_vesperslaw24_some := TabOK.cons vesperslaw24_some.ok t_cmp_Compare_int_ok
noncomputable abbrev tab_S1 : List (Nat × Entry) := t_vesperslaw24_some
theorem tab_S1_ok : TabOK Try.prog tab_S1 := t_vesperslaw24_some_ok
end
end Go.Proofs.Ytaoplfmaiclfkaa.S
