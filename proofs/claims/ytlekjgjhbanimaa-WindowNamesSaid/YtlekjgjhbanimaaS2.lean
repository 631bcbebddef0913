/- Contracts by the symbolic walk: vesperslaw16_some, vesperslaw16_judged, vesperslaw16_alive. -/
import Derived.Test.YtlekjgjhbanimaaProg
import Derived.Test.YtlekjgjhbanimaaSXk
import Derived.Test.YtlekjgjhbanimaaS1
namespace Go.Proofs.Ytlekjgjhbanimaa.S
open Go Go.RowKit Go.Proofs.Ytlekjgjhbanimaa.SX Go.Proofs
set_option linter.unusedVariables false
noncomputable section
def r_i64x16.dec : AV → Heap → Nat → Option (Int × Int × Int × Int × Int × Int × Int × Int × Int × Int × Int × Int × Int × Int × Int × Int)
  | .agg [x0, x1, x2, x3, x4, x5, x6, x7, x8, x9, x10, x11, x12, x13, x14, x15], _, _ => (dI .i64 x0).bind fun n0 => (dI .i64 x1).bind fun n1 => (dI .i64 x2).bind fun n2 => (dI .i64 x3).bind fun n3 => (dI .i64 x4).bind fun n4 => (dI .i64 x5).bind fun n5 => (dI .i64 x6).bind fun n6 => (dI .i64 x7).bind fun n7 => (dI .i64 x8).bind fun n8 => (dI .i64 x9).bind fun n9 => (dI .i64 x10).bind fun n10 => (dI .i64 x11).bind fun n11 => (dI .i64 x12).bind fun n12 => (dI .i64 x13).bind fun n13 => (dI .i64 x14).bind fun n14 => (dI .i64 x15).bind fun n15 => some (n0, n1, n2, n3, n4, n5, n6, n7, n8, n9, n10, n11, n12, n13, n14, n15)
  | _, _, _ => none
def r_i64x16.enc (r : Int × Int × Int × Int × Int × Int × Int × Int × Int × Int × Int × Int × Int × Int × Int × Int) : AV := .agg [.int .i64 (.s r.1), .int .i64 (.s r.2.1), .int .i64 (.s r.2.2.1), .int .i64 (.s r.2.2.2.1), .int .i64 (.s r.2.2.2.2.1), .int .i64 (.s r.2.2.2.2.2.1), .int .i64 (.s r.2.2.2.2.2.2.1), .int .i64 (.s r.2.2.2.2.2.2.2.1), .int .i64 (.s r.2.2.2.2.2.2.2.2.1), .int .i64 (.s r.2.2.2.2.2.2.2.2.2.1), .int .i64 (.s r.2.2.2.2.2.2.2.2.2.2.1), .int .i64 (.s r.2.2.2.2.2.2.2.2.2.2.2.1), .int .i64 (.s r.2.2.2.2.2.2.2.2.2.2.2.2.1), .int .i64 (.s r.2.2.2.2.2.2.2.2.2.2.2.2.2.1), .int .i64 (.s r.2.2.2.2.2.2.2.2.2.2.2.2.2.2.1), .int .i64 (.s r.2.2.2.2.2.2.2.2.2.2.2.2.2.2.2)]
abbrev r_i64x16.val (r : Int × Int × Int × Int × Int × Int × Int × Int × Int × Int × Int × Int × Int × Int × Int × Int) : Value := .agg #[.int .i64 r.1, .int .i64 r.2.1, .int .i64 r.2.2.1, .int .i64 r.2.2.2.1, .int .i64 r.2.2.2.2.1, .int .i64 r.2.2.2.2.2.1, .int .i64 r.2.2.2.2.2.2.1, .int .i64 r.2.2.2.2.2.2.2.1, .int .i64 r.2.2.2.2.2.2.2.2.1, .int .i64 r.2.2.2.2.2.2.2.2.2.1, .int .i64 r.2.2.2.2.2.2.2.2.2.2.1, .int .i64 r.2.2.2.2.2.2.2.2.2.2.2.1, .int .i64 r.2.2.2.2.2.2.2.2.2.2.2.2.1, .int .i64 r.2.2.2.2.2.2.2.2.2.2.2.2.2.1, .int .i64 r.2.2.2.2.2.2.2.2.2.2.2.2.2.2.1, .int .i64 r.2.2.2.2.2.2.2.2.2.2.2.2.2.2.2]
theorem r_i64x16.enc_rel (ρ : Pl) (r : Int × Int × Int × Int × Int × Int × Int × Int × Int × Int × Int × Int × Int × Int × Int × Int) : (r_i64x16.enc r).rel ρ (r_i64x16.val r) := AV.flat_rel _ rfl
theorem r_i64x16.ok {v : AV} {H : Heap} {hn : Nat} {r : Int × Int × Int × Int × Int × Int × Int × Int × Int × Int × Int × Int × Int × Int × Int × Int} {ρ : Pl} {x : Value} (h : r_i64x16.dec v H hn = some r) (hx : v.rel ρ x) : x = r_i64x16.val r := by
  unfold r_i64x16.dec at h
  split at h
  · obtain ⟨n0, e0, h⟩ := Option.bind_eq_some_iff.1 h
    obtain ⟨n1, e1, h⟩ := Option.bind_eq_some_iff.1 h
    obtain ⟨n2, e2, h⟩ := Option.bind_eq_some_iff.1 h
    obtain ⟨n3, e3, h⟩ := Option.bind_eq_some_iff.1 h
    obtain ⟨n4, e4, h⟩ := Option.bind_eq_some_iff.1 h
    obtain ⟨n5, e5, h⟩ := Option.bind_eq_some_iff.1 h
    obtain ⟨n6, e6, h⟩ := Option.bind_eq_some_iff.1 h
    obtain ⟨n7, e7, h⟩ := Option.bind_eq_some_iff.1 h
    obtain ⟨n8, e8, h⟩ := Option.bind_eq_some_iff.1 h
    obtain ⟨n9, e9, h⟩ := Option.bind_eq_some_iff.1 h
    obtain ⟨n10, e10, h⟩ := Option.bind_eq_some_iff.1 h
    obtain ⟨n11, e11, h⟩ := Option.bind_eq_some_iff.1 h
    obtain ⟨n12, e12, h⟩ := Option.bind_eq_some_iff.1 h
    obtain ⟨n13, e13, h⟩ := Option.bind_eq_some_iff.1 h
    obtain ⟨n14, e14, h⟩ := Option.bind_eq_some_iff.1 h
    obtain ⟨n15, e15, h⟩ := Option.bind_eq_some_iff.1 h
    cases h
    obtain ⟨z, hx, rfl⟩ := hx
    obtain ⟨y1, y2, hy1, hx, rfl⟩ := hx
    obtain rfl := dI_ok e0 hy1
    obtain ⟨y3, y4, hy3, hx, rfl⟩ := hx
    obtain rfl := dI_ok e1 hy3
    obtain ⟨y5, y6, hy5, hx, rfl⟩ := hx
    obtain rfl := dI_ok e2 hy5
    obtain ⟨y7, y8, hy7, hx, rfl⟩ := hx
    obtain rfl := dI_ok e3 hy7
    obtain ⟨y9, y10, hy9, hx, rfl⟩ := hx
    obtain rfl := dI_ok e4 hy9
    obtain ⟨y11, y12, hy11, hx, rfl⟩ := hx
    obtain rfl := dI_ok e5 hy11
    obtain ⟨y13, y14, hy13, hx, rfl⟩ := hx
    obtain rfl := dI_ok e6 hy13
    obtain ⟨y15, y16, hy15, hx, rfl⟩ := hx
    obtain rfl := dI_ok e7 hy15
    obtain ⟨y17, y18, hy17, hx, rfl⟩ := hx
    obtain rfl := dI_ok e8 hy17
    obtain ⟨y19, y20, hy19, hx, rfl⟩ := hx
    obtain rfl := dI_ok e9 hy19
    obtain ⟨y21, y22, hy21, hx, rfl⟩ := hx
    obtain rfl := dI_ok e10 hy21
    obtain ⟨y23, y24, hy23, hx, rfl⟩ := hx
    obtain rfl := dI_ok e11 hy23
    obtain ⟨y25, y26, hy25, hx, rfl⟩ := hx
    obtain rfl := dI_ok e12 hy25
    obtain ⟨y27, y28, hy27, hx, rfl⟩ := hx
    obtain rfl := dI_ok e13 hy27
    obtain ⟨y29, y30, hy29, hx, rfl⟩ := hx
    obtain rfl := dI_ok e14 hy29
    obtain ⟨y31, y32, hy31, hx, rfl⟩ := hx
    obtain rfl := dI_ok e15 hy31
    obtain rfl := (show _ = [] from hx)
    rfl
  · cases h
def vesperslaw16_some.f  : Option (Int × Int × Int × Int × Int × Int × Int × Int × Int × Int × Int × Int × Int × Int × Int × Int) :=
  some (4, 1, 512, 248, 96, 1, 1, 3, 100000, 88, 64, 10416, 2, 1, 4, 81920)
set_option maxRecDepth 100000 in
theorem vesperslaw16_some.calls (r1 : Int) (r2 : Int) (r3 : Int) (r4 : Int) (r5 : Int) (r6 : Int) (r7 : Int) (r8 : Int) (r9 : Int) (r10 : Int) (r11 : Int) (r12 : Int) (r13 : Int) (r14 : Int) (r15 : Int) (r16 : Int) (w : World) (h : vesperslaw16_some.f = some (r1, r2, r3, r4, r5, r6, r7, r8, r9, r10, r11, r12, r13, r14, r15, r16)) :
    Calls Try.prog 20 #[] w fun e w' => e = .returned (.agg #[.int .i64 r1, .int .i64 r2, .int .i64 r3, .int .i64 r4, .int .i64 r5, .int .i64 r6, .int .i64 r7, .int .i64 r8, .int .i64 r9, .int .i64 r10, .int .i64 r11, .int .i64 r12, .int .i64 r13, .int .i64 r14, .int .i64 r15, .int .i64 r16]) ∧ Below w.heap.size w w' := by
  have ht : (walk Try.prog (ctOf []) noL 100000 20 [] [] 0).opt r_i64x16.dec = vesperslaw16_some.f := by kernel_rfl
  exact calls_of named mixed (TabOK.nil).ct noL_ok ht h (by kernel_rfl) (by kernel_rfl) w fun _ _ _ _ _ hd hx => r_i64x16.ok hd hx
noncomputable def vesperslaw16_some.c : Entry := fun args _ => aN args (some { o := vesperslaw16_some.f, enc := r_i64x16.enc })
theorem vesperslaw16_some.ok : EntryOK Try.prog 20 vesperslaw16_some.c := by
  intro args H c h r hr ρ hn w xs hx hrel
  unfold vesperslaw16_some.c at h
  obtain ⟨rfl, h⟩ := aN_ok h hx
  cases h
  obtain ⟨r1, r2, r3, r4, r5, r6, r7, r8, r9, r10, r11, r12, r13, r14, r15, r16⟩ := r
  refine (vesperslaw16_some.calls r1 r2 r3 r4 r5 r6 r7 r8 r9 r10 r11 r12 r13 r14 r15 r16 w hr).mono ?_
  rintro e w' ⟨rfl, hb⟩
  exact ⟨_, rfl, r_i64x16.enc_rel ρ (r1, r2, r3, r4, r5, r6, r7, r8, r9, r10, r11, r12, r13, r14, r15, r16), hrel.below hb, Eff.of_below hb⟩
noncomputable def t_vesperslaw16_some : List (Nat × Entry) := (20, vesperslaw16_some.c) :: tab_S1
theorem t_vesperslaw16_some_ok : TabOK Try.prog t_vesperslaw16_some := TabOK.cons vesperslaw16_some.ok tab_S1_ok
def vesperslaw16_judged.f (a0 : Int) : Option Int :=
  ((vesperslaw16_some.f).bind fun t0 => ((window_Judge.f t0.fst t0.snd.fst t0.snd.snd.fst t0.snd.snd.snd.fst t0.snd.snd.snd.snd.fst t0.snd.snd.snd.snd.snd.fst t0.snd.snd.snd.snd.snd.snd.fst t0.snd.snd.snd.snd.snd.snd.snd.fst t0.snd.snd.snd.snd.snd.snd.snd.snd.fst t0.snd.snd.snd.snd.snd.snd.snd.snd.snd.fst t0.snd.snd.snd.snd.snd.snd.snd.snd.snd.snd.fst t0.snd.snd.snd.snd.snd.snd.snd.snd.snd.snd.snd.fst t0.snd.snd.snd.snd.snd.snd.snd.snd.snd.snd.snd.snd.fst t0.snd.snd.snd.snd.snd.snd.snd.snd.snd.snd.snd.snd.snd.fst t0.snd.snd.snd.snd.snd.snd.snd.snd.snd.snd.snd.snd.snd.snd.fst t0.snd.snd.snd.snd.snd.snd.snd.snd.snd.snd.snd.snd.snd.snd.snd 0 0 a0).bind fun t1 => (if t1.snd.snd ≠ 0 then some (-1) else some (wrap64 (wrap64 (1000 * t1.fst) + t1.snd.fst)))))
set_option maxRecDepth 100000 in
theorem vesperslaw16_judged.calls (a0 : Int) (r : Int) (w : World) (h : vesperslaw16_judged.f a0 = some r) :
    Calls Try.prog 21 #[.int .i64 a0] w fun e w' => e = .returned (.int .i64 r) ∧ Below w.heap.size w w' := by
  have ht : (walk Try.prog (ctOf t_vesperslaw16_some) noL 100000 21 [.int .i64 (.s a0)] [] 0).opt r_i64.dec = vesperslaw16_judged.f a0 := by kernel_rfl
  exact calls_of named mixed t_vesperslaw16_some_ok.ct noL_ok ht h (by kernel_rfl) (by kernel_rfl) w fun _ _ _ _ _ hd hx => r_i64.ok hd hx
noncomputable def vesperslaw16_judged.c : Entry := fun args _ => aI .i64 args fun a0 args => aN args (some { o := vesperslaw16_judged.f a0, enc := r_i64.enc })
theorem vesperslaw16_judged.ok : EntryOK Try.prog 21 vesperslaw16_judged.c := by
  intro args H c h r hr ρ hn w xs hx hrel
  unfold vesperslaw16_judged.c at h
  obtain ⟨a0, xs, args, rfl, hx, h⟩ := aI_ok h hx
  obtain ⟨rfl, h⟩ := aN_ok h hx
  cases h
  refine (vesperslaw16_judged.calls a0 r w hr).mono ?_
  rintro e w' ⟨rfl, hb⟩
  exact ⟨_, rfl, r_i64.enc_rel ρ r, hrel.below hb, Eff.of_below hb⟩
noncomputable def t_vesperslaw16_judged : List (Nat × Entry) := (21, vesperslaw16_judged.c) :: t_vesperslaw16_some
theorem t_vesperslaw16_judged_ok : TabOK Try.prog t_vesperslaw16_judged := TabOK.cons vesperslaw16_judged.ok t_vesperslaw16_some_ok
def vesperslaw16_alive.f  : Option Bool :=
  ((vesperslaw16_judged.f 250).bind fun t0 => (if t0 = 2000 then ((vesperslaw16_judged.f 153).bind fun t1 => (if t1 = 903 then ((vesperslaw16_judged.f 347).bind fun t2 => (if t2 = 3097 then ((vesperslaw16_judged.f 346).bind fun t3 => some (decide (t3 = 2096))) else some false)) else some false)) else some false))
set_option maxRecDepth 100000 in
theorem vesperslaw16_alive.calls (r : Bool) (w : World) (h : vesperslaw16_alive.f = some r) :
    Calls Try.prog 8 #[] w fun e w' => e = .returned (.bool r) ∧ Below w.heap.size w w' := by
  have ht : (walk Try.prog (ctOf t_vesperslaw16_judged) noL 100000 8 [] [] 0).opt r_bool.dec = vesperslaw16_alive.f := by kernel_rfl
  exact calls_of named mixed t_vesperslaw16_judged_ok.ct noL_ok ht h (by kernel_rfl) (by kernel_rfl) w fun _ _ _ _ _ hd hx => r_bool.ok hd hx
noncomputable def vesperslaw16_alive.c : Entry := fun args _ => aN args (some { o := vesperslaw16_alive.f, enc := r_bool.enc })
theorem vesperslaw16_alive.ok : EntryOK Try.prog 8 vesperslaw16_alive.c := by
  intro args H c h r hr ρ hn w xs hx hrel
  unfold vesperslaw16_alive.c at h
  obtain ⟨rfl, h⟩ := aN_ok h hx
  cases h
  refine (vesperslaw16_alive.calls r w hr).mono ?_
  rintro e w' ⟨rfl, hb⟩
  exact ⟨_, rfl, r_bool.enc_rel ρ r, hrel.below hb, Eff.of_below hb⟩
noncomputable def t_vesperslaw16_alive : List (Nat × Entry) := (8, vesperslaw16_alive.c) :: t_vesperslaw16_judged
theorem t_vesperslaw16_alive_ok : TabOK Try.prog t_vesperslaw16_alive := TabOK.cons vesperslaw16_alive.ok t_vesperslaw16_judged_ok
noncomputable abbrev tab_S2 : List (Nat × Entry) := t_vesperslaw16_alive
theorem tab_S2_ok : TabOK Try.prog tab_S2 := t_vesperslaw16_alive_ok
end
end Go.Proofs.Ytlekjgjhbanimaa.S
