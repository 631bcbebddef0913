/- Contracts by the symbolic walk: vesperslaw21_some, vesperslaw21_alive, vesperslaw21_StartupDue, vesperslaw21_StartupJoins. -/
import Derived.Test.YtoachpilnanghaaRRRProg
import Derived.Test.YtoachpilnanghaaRRRSXj
import Derived.Test.YtoachpilnanghaaRRRS1
namespace Go.Proofs.YtoachpilnanghaaRRR.S
open Go Go.RowKit Go.Proofs.YtoachpilnanghaaRRR.SX Go.Proofs
set_option linter.unusedVariables false
def r_i64x16.dec : AV → Heap → Nat → Option (Int × Int × Int × Int × Int × Int × Int × Int × Int × Int × Int × Int × Int × Int × Int × Int)
  | .agg [x0, x1, x2, x3, x4, x5, x6, x7, x8, x9, x10, x11, x12, x13, x14, x15], _, _ => (dI .i64 x0).bind fun n0 => (dI .i64 x1).bind fun n1 => (dI .i64 x2).bind fun n2 => (dI .i64 x3).bind fun n3 => (dI .i64 x4).bind fun n4 => (dI .i64 x5).bind fun n5 => (dI .i64 x6).bind fun n6 => (dI .i64 x7).bind fun n7 => (dI .i64 x8).bind fun n8 => (dI .i64 x9).bind fun n9 => (dI .i64 x10).bind fun n10 => (dI .i64 x11).bind fun n11 => (dI .i64 x12).bind fun n12 => (dI .i64 x13).bind fun n13 => (dI .i64 x14).bind fun n14 => (dI .i64 x15).bind fun n15 => some (n0, n1, n2, n3, n4, n5, n6, n7, n8, n9, n10, n11, n12, n13, n14, n15)
  | _, _, _ => none
def r_i64x16.enc (r : Int × Int × Int × Int × Int × Int × Int × Int × Int × Int × Int × Int × Int × Int × Int × Int) : AV := .agg [.int .i64 (.s r.1), .int .i64 (.s r.2.1), .int .i64 (.s r.2.2.1), .int .i64 (.s r.2.2.2.1), .int .i64 (.s r.2.2.2.2.1), .int .i64 (.s r.2.2.2.2.2.1), .int .i64 (.s r.2.2.2.2.2.2.1), .int .i64 (.s r.2.2.2.2.2.2.2.1), .int .i64 (.s r.2.2.2.2.2.2.2.2.1), .int .i64 (.s r.2.2.2.2.2.2.2.2.2.1), .int .i64 (.s r.2.2.2.2.2.2.2.2.2.2.1), .int .i64 (.s r.2.2.2.2.2.2.2.2.2.2.2.1), .int .i64 (.s r.2.2.2.2.2.2.2.2.2.2.2.2.1), .int .i64 (.s r.2.2.2.2.2.2.2.2.2.2.2.2.2.1), .int .i64 (.s r.2.2.2.2.2.2.2.2.2.2.2.2.2.2.1), .int .i64 (.s r.2.2.2.2.2.2.2.2.2.2.2.2.2.2.2)]
abbrev r_i64x16.val (r : Int × Int × Int × Int × Int × Int × Int × Int × Int × Int × Int × Int × Int × Int × Int × Int) : Value := .agg #[.int .i64 r.1, .int .i64 r.2.1, .int .i64 r.2.2.1, .int .i64 r.2.2.2.1, .int .i64 r.2.2.2.2.1, .int .i64 r.2.2.2.2.2.1, .int .i64 r.2.2.2.2.2.2.1, .int .i64 r.2.2.2.2.2.2.2.1, .int .i64 r.2.2.2.2.2.2.2.2.1, .int .i64 r.2.2.2.2.2.2.2.2.2.1, .int .i64 r.2.2.2.2.2.2.2.2.2.2.1, .int .i64 r.2.2.2.2.2.2.2.2.2.2.2.1, .int .i64 r.2.2.2.2.2.2.2.2.2.2.2.2.1, .int .i64 r.2.2.2.2.2.2.2.2.2.2.2.2.2.1, .int .i64 r.2.2.2.2.2.2.2.2.2.2.2.2.2.2.1, .int .i64 r.2.2.2.2.2.2.2.2.2.2.2.2.2.2.2]
theorem r_i64x16.enc_rel (ρ : Pl) (r : Int × Int × Int × Int × Int × Int × Int × Int × Int × Int × Int × Int × Int × Int × Int × Int) : (r_i64x16.enc r).rel ρ (r_i64x16.val r) := AV.flat_rel _ rfl
theorem r_i64x16.ok {v : AV} {H : Heap} {hn : Nat} {r : Int × Int × Int × Int × Int × Int × Int × Int × Int × Int × Int × Int × Int × Int × Int × Int} {ρ : Pl} {x : Value} (h : r_i64x16.dec v H hn = some r) (hx : v.rel ρ x) : x = r_i64x16.val r := by
  unfold r_i64x16.dec at h
  split at h
  · obtain ⟨n0, e0, h⟩ := Option.bind_eq_some_iff.1 h
    obtain ⟨n1, e1, h⟩ := Option.bind_eq_some_iff.1 h
    obtain ⟨n2, e2, h⟩ := Option.bind_eq_some_iff.1 h
    obtain ⟨n3, e3, h⟩ := Option.bind_eq_some_iff.1 h
    obtain ⟨n4, e4, h⟩ := Option.bind_eq_some_iff.1 h
    obtain ⟨n5, e5, h⟩ := Option.bind_eq_some_iff.1 h
    obtain ⟨n6, e6, h⟩ := Option.bind_eq_some_iff.1 h
    obtain ⟨n7, e7, h⟩ := Option.bind_eq_some_iff.1 h
    obtain ⟨n8, e8, h⟩ := Option.bind_eq_some_iff.1 h
    obtain ⟨n9, e9, h⟩ := Option.bind_eq_some_iff.1 h
    obtain ⟨n10, e10, h⟩ := Option.bind_eq_some_iff.1 h
    obtain ⟨n11, e11, h⟩ := Option.bind_eq_some_iff.1 h
    obtain ⟨n12, e12, h⟩ := Option.bind_eq_some_iff.1 h
    obtain ⟨n13, e13, h⟩ := Option.bind_eq_some_iff.1 h
    obtain ⟨n14, e14, h⟩ := Option.bind_eq_some_iff.1 h
    obtain ⟨n15, e15, h⟩ := Option.bind_eq_some_iff.1 h
    cases h
    obtain ⟨z, hx, rfl⟩ := hx
    obtain ⟨y1, y2, hy1, hx, rfl⟩ := hx
    obtain rfl := dI_ok e0 hy1
    obtain ⟨y3, y4, hy3, hx, rfl⟩ := hx
    obtain rfl := dI_ok e1 hy3
    obtain ⟨y5, y6, hy5, hx, rfl⟩ := hx
    obtain rfl := dI_ok e2 hy5
    obtain ⟨y7, y8, hy7, hx, rfl⟩ := hx
    obtain rfl := dI_ok e3 hy7
    obtain ⟨y9, y10, hy9, hx, rfl⟩ := hx
    obtain rfl := dI_ok e4 hy9
    obtain ⟨y11, y12, hy11, hx, rfl⟩ := hx
    obtain rfl := dI_ok e5 hy11
    obtain ⟨y13, y14, hy13, hx, rfl⟩ := hx
    obtain rfl := dI_ok e6 hy13
    obtain ⟨y15, y16, hy15, hx, rfl⟩ := hx
    obtain rfl := dI_ok e7 hy15
    obtain ⟨y17, y18, hy17, hx, rfl⟩ := hx
    obtain rfl := dI_ok e8 hy17
    obtain ⟨y19, y20, hy19, hx, rfl⟩ := hx
    obtain rfl := dI_ok e9 hy19
    obtain ⟨y21, y22, hy21, hx, rfl⟩ := hx
    obtain rfl := dI_ok e10 hy21
    obtain ⟨y23, y24, hy23, hx, rfl⟩ := hx
    obtain rfl := dI_ok e11 hy23
    obtain ⟨y25, y26, hy25, hx, rfl⟩ := hx
    obtain rfl := dI_ok e12 hy25
    obtain ⟨y27, y28, hy27, hx, rfl⟩ := hx
    obtain rfl := dI_ok e13 hy27
    obtain ⟨y29, y30, hy29, hx, rfl⟩ := hx
    obtain rfl := dI_ok e14 hy29
    obtain ⟨y31, y32, hy31, hx, rfl⟩ := hx
    obtain rfl := dI_ok e15 hy31
    obtain rfl := (show _ = [] from hx)
    rfl
  · cases h
def vesperslaw21_some.f  : Option (Int × Int × Int × Int × Int × Int × Int × Int × Int × Int × Int × Int × Int × Int × Int × Int) :=
  some (4, 1, 512, 248, 96, 1, 1, 3, 100000, 88, 64, 10416, 2, 1, 4, 81920)
set_option maxRecDepth 100000 in
theorem vesperslaw21_some.calls (r1 : Int) (r2 : Int) (r3 : Int) (r4 : Int) (r5 : Int) (r6 : Int) (r7 : Int) (r8 : Int) (r9 : Int) (r10 : Int) (r11 : Int) (r12 : Int) (r13 : Int) (r14 : Int) (r15 : Int) (r16 : Int) (w : World) (h : vesperslaw21_some.f = some (r1, r2, r3, r4, r5, r6, r7, r8, r9, r10, r11, r12, r13, r14, r15, r16)) :
    Calls Try.prog 13 #[] w fun e w' => e = .returned (.agg #[.int .i64 r1, .int .i64 r2, .int .i64 r3, .int .i64 r4, .int .i64 r5, .int .i64 r6, .int .i64 r7, .int .i64 r8, .int .i64 r9, .int .i64 r10, .int .i64 r11, .int .i64 r12, .int .i64 r13, .int .i64 r14, .int .i64 r15, .int .i64 r16]) ∧ Below w.heap.size w w' := by
  have ht : (walk Try.prog (ctOf []) noL 100000 13 [] [] 0).opt r_i64x16.dec = vesperslaw21_some.f := by kernel_rfl
  exact calls_of named mixed (TabOK.nil).ct noL_ok ht h (by kernel_rfl) (by kernel_rfl) w fun _ _ _ _ _ hd hx => r_i64x16.ok hd hx
noncomputable def vesperslaw21_some.c : Entry := fun args _ => aN args (some { o := vesperslaw21_some.f, enc := r_i64x16.enc })
theorem vesperslaw21_some.ok : EntryOK Try.prog 13 vesperslaw21_some.c := by
  intro args H c h r hr ρ hn w xs hx hrel
  unfold vesperslaw21_some.c at h
  obtain ⟨rfl, h⟩ := aN_ok h hx
  cases h
  obtain ⟨r1, r2, r3, r4, r5, r6, r7, r8, r9, r10, r11, r12, r13, r14, r15, r16⟩ := r
  refine (vesperslaw21_some.calls r1 r2 r3 r4 r5 r6 r7 r8 r9 r10 r11 r12 r13 r14 r15 r16 w hr).mono ?_
  rintro e w' ⟨rfl, hb⟩
  exact ⟨_, rfl, r_i64x16.enc_rel ρ (r1, r2, r3, r4, r5, r6, r7, r8, r9, r10, r11, r12, r13, r14, r15, r16), hrel.below hb, Eff.of_below hb⟩
noncomputable def t_vesperslaw21_some : List (Nat × Entry) := (13, vesperslaw21_some.c) :: tab_S1
theorem t_vesperslaw21_some_ok : TabOK Try.prog t_vesperslaw21_some := TabOK.cons vesperslaw21_some.ok tab_S1_ok
def vesperslaw21_alive.f  : Option Bool :=
  ((vesperslaw21_some.f).bind fun t0 => ((startup_Listen.f t0.fst t0.snd.fst t0.snd.snd.fst t0.snd.snd.snd.fst t0.snd.snd.snd.snd.fst t0.snd.snd.snd.snd.snd.fst t0.snd.snd.snd.snd.snd.snd.fst t0.snd.snd.snd.snd.snd.snd.snd.fst t0.snd.snd.snd.snd.snd.snd.snd.snd.fst t0.snd.snd.snd.snd.snd.snd.snd.snd.snd.fst t0.snd.snd.snd.snd.snd.snd.snd.snd.snd.snd.fst t0.snd.snd.snd.snd.snd.snd.snd.snd.snd.snd.snd.fst t0.snd.snd.snd.snd.snd.snd.snd.snd.snd.snd.snd.snd.fst t0.snd.snd.snd.snd.snd.snd.snd.snd.snd.snd.snd.snd.snd.fst t0.snd.snd.snd.snd.snd.snd.snd.snd.snd.snd.snd.snd.snd.snd.fst t0.snd.snd.snd.snd.snd.snd.snd.snd.snd.snd.snd.snd.snd.snd.snd 1 100).bind fun t1 => ((vesperslaw21_some.f).bind fun t2 => ((startup_Due.f t2.fst t2.snd.fst t2.snd.snd.fst t2.snd.snd.snd.fst t2.snd.snd.snd.snd.fst t2.snd.snd.snd.snd.snd.fst t2.snd.snd.snd.snd.snd.snd.fst t2.snd.snd.snd.snd.snd.snd.snd.fst t2.snd.snd.snd.snd.snd.snd.snd.snd.fst t2.snd.snd.snd.snd.snd.snd.snd.snd.snd.fst t2.snd.snd.snd.snd.snd.snd.snd.snd.snd.snd.fst t2.snd.snd.snd.snd.snd.snd.snd.snd.snd.snd.snd.fst t2.snd.snd.snd.snd.snd.snd.snd.snd.snd.snd.snd.snd.fst t2.snd.snd.snd.snd.snd.snd.snd.snd.snd.snd.snd.snd.snd.fst t2.snd.snd.snd.snd.snd.snd.snd.snd.snd.snd.snd.snd.snd.snd.fst t2.snd.snd.snd.snd.snd.snd.snd.snd.snd.snd.snd.snd.snd.snd.snd t1.fst t1.snd.fst t1.snd.snd.fst t1.snd.snd.snd.fst t1.snd.snd.snd.snd.fst t1.snd.snd.snd.snd.snd.fst).bind fun t3 => ((vesperslaw21_some.f).bind fun t4 => ((startup_Time.f t4.fst t4.snd.fst t4.snd.snd.fst t4.snd.snd.snd.fst t4.snd.snd.snd.snd.fst t4.snd.snd.snd.snd.snd.fst t4.snd.snd.snd.snd.snd.snd.fst t4.snd.snd.snd.snd.snd.snd.snd.fst t4.snd.snd.snd.snd.snd.snd.snd.snd.fst t4.snd.snd.snd.snd.snd.snd.snd.snd.snd.fst t4.snd.snd.snd.snd.snd.snd.snd.snd.snd.snd.fst t4.snd.snd.snd.snd.snd.snd.snd.snd.snd.snd.snd.fst t4.snd.snd.snd.snd.snd.snd.snd.snd.snd.snd.snd.snd.fst t4.snd.snd.snd.snd.snd.snd.snd.snd.snd.snd.snd.snd.snd.fst t4.snd.snd.snd.snd.snd.snd.snd.snd.snd.snd.snd.snd.snd.snd.fst t4.snd.snd.snd.snd.snd.snd.snd.snd.snd.snd.snd.snd.snd.snd.snd t1.fst t1.snd.fst t1.snd.snd.fst t1.snd.snd.snd.fst t1.snd.snd.snd.snd.fst t1.snd.snd.snd.snd.snd.fst 6755).bind fun t5 => ((vesperslaw21_some.f).bind fun t6 => ((startup_Time.f t6.fst t6.snd.fst t6.snd.snd.fst t6.snd.snd.snd.fst t6.snd.snd.snd.snd.fst t6.snd.snd.snd.snd.snd.fst t6.snd.snd.snd.snd.snd.snd.fst t6.snd.snd.snd.snd.snd.snd.snd.fst t6.snd.snd.snd.snd.snd.snd.snd.snd.fst t6.snd.snd.snd.snd.snd.snd.snd.snd.snd.fst t6.snd.snd.snd.snd.snd.snd.snd.snd.snd.snd.fst t6.snd.snd.snd.snd.snd.snd.snd.snd.snd.snd.snd.fst t6.snd.snd.snd.snd.snd.snd.snd.snd.snd.snd.snd.snd.fst t6.snd.snd.snd.snd.snd.snd.snd.snd.snd.snd.snd.snd.snd.fst t6.snd.snd.snd.snd.snd.snd.snd.snd.snd.snd.snd.snd.snd.snd.fst t6.snd.snd.snd.snd.snd.snd.snd.snd.snd.snd.snd.snd.snd.snd.snd t1.fst t1.snd.fst t1.snd.snd.fst t1.snd.snd.snd.fst t1.snd.snd.snd.snd.fst t1.snd.snd.snd.snd.snd.fst 6756).bind fun t7 => (if t1.snd.snd.snd.snd.snd.snd = 0 then (if t3.snd = 0 then (if t3.fst = 6756 then (if t5.snd.snd.snd.snd.snd.snd.snd = 0 then (if t5.snd.snd.snd.snd.snd.snd.fst = 0 then (if t7.snd.snd.snd.snd.snd.snd.snd = 0 then (if t7.snd.snd.snd.snd.snd.snd.fst = 1 then some (decide (t7.fst = 1) && (decide (t7.snd.fst = 3) && (decide (t7.snd.snd.fst = 6756) && (decide (t7.snd.snd.snd.fst = 0) && (t7.snd.snd.snd.snd.fst == false && (decide (t7.snd.snd.snd.snd.snd.fst = 1) && true)))))) else some false) else some false) else some false) else some false) else some false) else some false) else some false)))))))))
set_option maxRecDepth 100000 in
theorem vesperslaw21_alive.calls (r : Bool) (w : World) (h : vesperslaw21_alive.f = some r) :
    Calls Try.prog 5 #[] w fun e w' => e = .returned (.bool r) ∧ Below w.heap.size w w' := by
  have ht : (walk Try.prog (ctOf t_vesperslaw21_some) noL 100000 5 [] [] 0).opt r_bool.dec = vesperslaw21_alive.f := by kernel_rfl
  exact calls_of named mixed t_vesperslaw21_some_ok.ct noL_ok ht h (by kernel_rfl) (by kernel_rfl) w fun _ _ _ _ _ hd hx => r_bool.ok hd hx
noncomputable def vesperslaw21_alive.c : Entry := fun args _ => aN args (some { o := vesperslaw21_alive.f, enc := r_bool.enc })
theorem vesperslaw21_alive.ok : EntryOK Try.prog 5 vesperslaw21_alive.c := by
  intro args H c h r hr ρ hn w xs hx hrel
  unfold vesperslaw21_alive.c at h
  obtain ⟨rfl, h⟩ := aN_ok h hx
  cases h
  refine (vesperslaw21_alive.calls r w hr).mono ?_
  rintro e w' ⟨rfl, hb⟩
  exact ⟨_, rfl, r_bool.enc_rel ρ r, hrel.below hb, Eff.of_below hb⟩
noncomputable def t_vesperslaw21_alive : List (Nat × Entry) := (5, vesperslaw21_alive.c) :: t_vesperslaw21_some
theorem t_vesperslaw21_alive_ok : TabOK Try.prog t_vesperslaw21_alive := TabOK.cons vesperslaw21_alive.ok t_vesperslaw21_some_ok
def vesperslaw21_StartupDue.f (a0_0 : Int) (a0_1 : Int) (a0_2 : Int) (a0_3 : Int) (a0_4 : Int) (a0_5 : Int) (a0_6 : Int) (a0_7 : Int) (a0_8 : Int) (a0_9 : Int) (a0_10 : Int) (a0_11 : Int) (a0_12 : Int) (a0_13 : Int) (a0_14 : Int) (a0_15 : Int) (a1_0 : Int) (a1_1 : Int) (a1_2 : Int) (a1_3 : Int) (a1_4 : Bool) (a1_5 : Int) (a2 : Int) : Option Bool :=
  ((vesperslaw21_alive.f).bind fun t0 => ((startup_Due.f a0_0 a0_1 a0_2 a0_3 a0_4 a0_5 a0_6 a0_7 a0_8 a0_9 a0_10 a0_11 a0_12 a0_13 a0_14 a0_15 a1_0 a1_1 a1_2 a1_3 a1_4 a1_5).bind fun t1 => ((startup_Time.f a0_0 a0_1 a0_2 a0_3 a0_4 a0_5 a0_6 a0_7 a0_8 a0_9 a0_10 a0_11 a0_12 a0_13 a0_14 a0_15 a1_0 a1_1 a1_2 a1_3 a1_4 a1_5 a2).bind fun t2 => (if t1.snd ≠ 0 then (if t0 = true then (if t2.snd.snd.snd.snd.snd.snd.snd = 210 then (if (decide (t2.fst = 0) && (decide (t2.snd.fst = 0) && (decide (t2.snd.snd.fst = 0) && (decide (t2.snd.snd.snd.fst = 0) && (t2.snd.snd.snd.snd.fst == false && (decide (t2.snd.snd.snd.snd.snd.fst = 0) && true)))))) = true then some true else some (decide (t1.snd = 0))) else some (decide (t1.snd = 0))) else some false) else (if t2.snd.snd.snd.snd.snd.snd.snd ≠ 0 then (if t0 = true then (if t2.snd.snd.snd.snd.snd.snd.snd = 210 then (if (decide (t2.fst = 0) && (decide (t2.snd.fst = 0) && (decide (t2.snd.snd.fst = 0) && (decide (t2.snd.snd.snd.fst = 0) && (t2.snd.snd.snd.snd.fst == false && (decide (t2.snd.snd.snd.snd.snd.fst = 0) && true)))))) = true then some true else some (decide (t1.snd = 0))) else some (decide (t1.snd = 0))) else some false) else (if a2 < t1.fst then (if t0 = true then (if t2.snd.snd.snd.snd.snd.snd.fst = 0 then some (decide (t2.fst = a1_0) && (decide (t2.snd.fst = a1_1) && (decide (t2.snd.snd.fst = a1_2) && (decide (t2.snd.snd.snd.fst = a1_3) && (t2.snd.snd.snd.snd.fst == a1_4 && (decide (t2.snd.snd.snd.snd.snd.fst = a1_5) && true)))))) else some false) else some false) else ((startup_Due.f a0_0 a0_1 a0_2 a0_3 a0_4 a0_5 a0_6 a0_7 a0_8 a0_9 a0_10 a0_11 a0_12 a0_13 a0_14 a0_15 t2.fst t2.snd.fst t2.snd.snd.fst t2.snd.snd.snd.fst t2.snd.snd.snd.snd.fst t2.snd.snd.snd.snd.snd.fst).bind fun t3 => (if a1_5 = 3 then (if t0 = true then (if t2.snd.snd.snd.snd.snd.snd.fst = 5 then ((startup_Check.f a0_0 a0_1 a0_2 a0_3 a0_4 a0_5 a0_6 a0_7 a0_8 a0_9 a0_10 a0_11 a0_12 a0_13 a0_14 a0_15 t2.fst t2.snd.fst t2.snd.snd.fst t2.snd.snd.snd.fst t2.snd.snd.snd.snd.fst t2.snd.snd.snd.snd.snd.fst).bind fun t4 => (if t4 = 0 then (if t3.snd = 0 then (if t3.fst > a2 then (if t2.fst = a1_0 then (if t2.snd.snd.fst = a2 then ((vespersref21_Check.f a0_0 a0_1 a0_2 a0_3 a0_4 a0_5 a0_6 a0_7 a0_8 a0_9 a0_10 a0_11 a0_12 a0_13 a0_14 a0_15 t2.fst t2.snd.fst t2.snd.snd.fst t2.snd.snd.snd.fst t2.snd.snd.snd.snd.fst t2.snd.snd.snd.snd.snd.fst).bind fun t5 => some (decide (t5 = 0))) else some false) else some false) else some false) else some false) else some false)) else some false) else some false) else (if t0 = true then (if t2.snd.snd.snd.snd.snd.snd.fst = 1 then ((startup_Check.f a0_0 a0_1 a0_2 a0_3 a0_4 a0_5 a0_6 a0_7 a0_8 a0_9 a0_10 a0_11 a0_12 a0_13 a0_14 a0_15 t2.fst t2.snd.fst t2.snd.snd.fst t2.snd.snd.snd.fst t2.snd.snd.snd.snd.fst t2.snd.snd.snd.snd.snd.fst).bind fun t4 => (if t4 = 0 then (if t3.snd = 0 then (if t3.fst > a2 then (if t2.fst = a1_0 then (if t2.snd.snd.fst = a2 then ((vespersref21_Check.f a0_0 a0_1 a0_2 a0_3 a0_4 a0_5 a0_6 a0_7 a0_8 a0_9 a0_10 a0_11 a0_12 a0_13 a0_14 a0_15 t2.fst t2.snd.fst t2.snd.snd.fst t2.snd.snd.snd.fst t2.snd.snd.snd.snd.fst t2.snd.snd.snd.snd.snd.fst).bind fun t5 => some (decide (t5 = 0))) else some false) else some false) else some false) else some false) else some false)) else some false) else some false)))))))))
set_option maxRecDepth 100000 in
theorem vesperslaw21_StartupDue.calls (a0_0 : Int) (a0_1 : Int) (a0_2 : Int) (a0_3 : Int) (a0_4 : Int) (a0_5 : Int) (a0_6 : Int) (a0_7 : Int) (a0_8 : Int) (a0_9 : Int) (a0_10 : Int) (a0_11 : Int) (a0_12 : Int) (a0_13 : Int) (a0_14 : Int) (a0_15 : Int) (a1_0 : Int) (a1_1 : Int) (a1_2 : Int) (a1_3 : Int) (a1_4 : Bool) (a1_5 : Int) (a2 : Int) (r : Bool) (w : World) (h : vesperslaw21_StartupDue.f a0_0 a0_1 a0_2 a0_3 a0_4 a0_5 a0_6 a0_7 a0_8 a0_9 a0_10 a0_11 a0_12 a0_13 a0_14 a0_15 a1_0 a1_1 a1_2 a1_3 a1_4 a1_5 a2 = some r) :
    Calls Try.prog 3 #[.agg #[.int .i64 a0_0, .int .i64 a0_1, .int .i64 a0_2, .int .i64 a0_3, .int .i64 a0_4, .int .i64 a0_5, .int .i64 a0_6, .int .i64 a0_7, .int .i64 a0_8, .int .i64 a0_9, .int .i64 a0_10, .int .i64 a0_11, .int .i64 a0_12, .int .i64 a0_13, .int .i64 a0_14, .int .i64 a0_15], .agg #[.int .i64 a1_0, .int .i64 a1_1, .int .i64 a1_2, .int .i64 a1_3, .bool a1_4, .int .i64 a1_5], .int .i64 a2] w fun e w' => e = .returned (.bool r) ∧ Below w.heap.size w w' := by
  have ht : (walk Try.prog (ctOf t_vesperslaw21_alive) noL 100000 3 [.agg [.int .i64 (.s a0_0), .int .i64 (.s a0_1), .int .i64 (.s a0_2), .int .i64 (.s a0_3), .int .i64 (.s a0_4), .int .i64 (.s a0_5), .int .i64 (.s a0_6), .int .i64 (.s a0_7), .int .i64 (.s a0_8), .int .i64 (.s a0_9), .int .i64 (.s a0_10), .int .i64 (.s a0_11), .int .i64 (.s a0_12), .int .i64 (.s a0_13), .int .i64 (.s a0_14), .int .i64 (.s a0_15)], .agg [.int .i64 (.s a1_0), .int .i64 (.s a1_1), .int .i64 (.s a1_2), .int .i64 (.s a1_3), .bool (.s a1_4), .int .i64 (.s a1_5)], .int .i64 (.s a2)] [] 0).opt r_bool.dec = vesperslaw21_StartupDue.f a0_0 a0_1 a0_2 a0_3 a0_4 a0_5 a0_6 a0_7 a0_8 a0_9 a0_10 a0_11 a0_12 a0_13 a0_14 a0_15 a1_0 a1_1 a1_2 a1_3 a1_4 a1_5 a2 := by kernel_rfl
  exact calls_of named mixed t_vesperslaw21_alive_ok.ct noL_ok ht h (by kernel_rfl) (by kernel_rfl) w fun _ _ _ _ _ hd hx => r_bool.ok hd hx
noncomputable def vesperslaw21_StartupDue.c : Entry := fun args _ => g_i64x16 args fun a0_0 a0_1 a0_2 a0_3 a0_4 a0_5 a0_6 a0_7 a0_8 a0_9 a0_10 a0_11 a0_12 a0_13 a0_14 a0_15 args => g_i64x4booli64 args fun a1_0 a1_1 a1_2 a1_3 a1_4 a1_5 args => aI .i64 args fun a2 args => aN args (some { o := vesperslaw21_StartupDue.f a0_0 a0_1 a0_2 a0_3 a0_4 a0_5 a0_6 a0_7 a0_8 a0_9 a0_10 a0_11 a0_12 a0_13 a0_14 a0_15 a1_0 a1_1 a1_2 a1_3 a1_4 a1_5 a2, enc := r_bool.enc })
theorem vesperslaw21_StartupDue.ok : EntryOK Try.prog 3 vesperslaw21_StartupDue.c := by
  intro args H c h r hr ρ hn w xs hx hrel
  unfold vesperslaw21_StartupDue.c at h
  obtain ⟨a0_0, a0_1, a0_2, a0_3, a0_4, a0_5, a0_6, a0_7, a0_8, a0_9, a0_10, a0_11, a0_12, a0_13, a0_14, a0_15, xs, args, rfl, hx, h⟩ := g_i64x16_ok h hx
  obtain ⟨a1_0, a1_1, a1_2, a1_3, a1_4, a1_5, xs, args, rfl, hx, h⟩ := g_i64x4booli64_ok h hx
  obtain ⟨a2, xs, args, rfl, hx, h⟩ := aI_ok h hx
  obtain ⟨rfl, h⟩ := aN_ok h hx
  cases h
  refine (vesperslaw21_StartupDue.calls a0_0 a0_1 a0_2 a0_3 a0_4 a0_5 a0_6 a0_7 a0_8 a0_9 a0_10 a0_11 a0_12 a0_13 a0_14 a0_15 a1_0 a1_1 a1_2 a1_3 a1_4 a1_5 a2 r w hr).mono ?_
  rintro e w' ⟨rfl, hb⟩
  exact ⟨_, rfl, r_bool.enc_rel ρ r, hrel.below hb, Eff.of_below hb⟩
noncomputable def t_vesperslaw21_StartupDue : List (Nat × Entry) := (3, vesperslaw21_StartupDue.c) :: t_vesperslaw21_alive
theorem t_vesperslaw21_StartupDue_ok : TabOK Try.prog t_vesperslaw21_StartupDue := TabOK.cons vesperslaw21_StartupDue.ok t_vesperslaw21_alive_ok
def vesperslaw21_StartupJoins.f (a0_0 : Int) (a0_1 : Int) (a0_2 : Int) (a0_3 : Int) (a0_4 : Int) (a0_5 : Int) (a0_6 : Int) (a0_7 : Int) (a0_8 : Int) (a0_9 : Int) (a0_10 : Int) (a0_11 : Int) (a0_12 : Int) (a0_13 : Int) (a0_14 : Int) (a0_15 : Int) (a1_0 : Int) (a1_1 : Int) (a2 : Int) : Option Bool :=
  ((vesperslaw21_alive.f).bind fun t0 => ((startup_Join.f a0_0 a0_1 a0_2 a0_3 a0_4 a0_5 a0_6 a0_7 a0_8 a0_9 a0_10 a0_11 a0_12 a0_13 a0_14 a0_15 a1_0 a1_1 a2).bind fun t1 => ((table_Expected.f a0_0 a0_1 a0_2 a0_3 a0_4 a0_5 a0_6 a0_7 a0_8 a0_9 a0_10 a0_11 a0_12 a0_13 a0_14 a0_15 a1_0 a1_1).bind fun t2 => (if t1.snd ≠ 0 then (if t0 = true then (if t1.snd = 210 then (if t2.snd.snd.snd ≠ 0 then some true else (if a2 > 4294967296 then some true else some (decide (a2 < -4294967296)))) else some false) else some false) else (if t0 = true then (if t2.snd.snd.snd = 0 then some (decide (wrap64 (a2 + t1.fst) = t2.fst)) else some false) else some false)))))
set_option maxRecDepth 100000 in
theorem vesperslaw21_StartupJoins.calls (a0_0 : Int) (a0_1 : Int) (a0_2 : Int) (a0_3 : Int) (a0_4 : Int) (a0_5 : Int) (a0_6 : Int) (a0_7 : Int) (a0_8 : Int) (a0_9 : Int) (a0_10 : Int) (a0_11 : Int) (a0_12 : Int) (a0_13 : Int) (a0_14 : Int) (a0_15 : Int) (a1_0 : Int) (a1_1 : Int) (a2 : Int) (r : Bool) (w : World) (h : vesperslaw21_StartupJoins.f a0_0 a0_1 a0_2 a0_3 a0_4 a0_5 a0_6 a0_7 a0_8 a0_9 a0_10 a0_11 a0_12 a0_13 a0_14 a0_15 a1_0 a1_1 a2 = some r) :
    Calls Try.prog 4 #[.agg #[.int .i64 a0_0, .int .i64 a0_1, .int .i64 a0_2, .int .i64 a0_3, .int .i64 a0_4, .int .i64 a0_5, .int .i64 a0_6, .int .i64 a0_7, .int .i64 a0_8, .int .i64 a0_9, .int .i64 a0_10, .int .i64 a0_11, .int .i64 a0_12, .int .i64 a0_13, .int .i64 a0_14, .int .i64 a0_15], .agg #[.int .i64 a1_0, .int .i64 a1_1], .int .i64 a2] w fun e w' => e = .returned (.bool r) ∧ Below w.heap.size w w' := by
  have ht : (walk Try.prog (ctOf t_vesperslaw21_StartupDue) noL 100000 4 [.agg [.int .i64 (.s a0_0), .int .i64 (.s a0_1), .int .i64 (.s a0_2), .int .i64 (.s a0_3), .int .i64 (.s a0_4), .int .i64 (.s a0_5), .int .i64 (.s a0_6), .int .i64 (.s a0_7), .int .i64 (.s a0_8), .int .i64 (.s a0_9), .int .i64 (.s a0_10), .int .i64 (.s a0_11), .int .i64 (.s a0_12), .int .i64 (.s a0_13), .int .i64 (.s a0_14), .int .i64 (.s a0_15)], .agg [.int .i64 (.s a1_0), .int .i64 (.s a1_1)], .int .i64 (.s a2)] [] 0).opt r_bool.dec = vesperslaw21_StartupJoins.f a0_0 a0_1 a0_2 a0_3 a0_4 a0_5 a0_6 a0_7 a0_8 a0_9 a0_10 a0_11 a0_12 a0_13 a0_14 a0_15 a1_0 a1_1 a2 := by kernel_rfl
  exact calls_of named mixed t_vesperslaw21_StartupDue_ok.ct noL_ok ht h (by kernel_rfl) (by kernel_rfl) w fun _ _ _ _ _ hd hx => r_bool.ok hd hx
noncomputable def vesperslaw21_StartupJoins.c : Entry := fun args _ => g_i64x16 args fun a0_0 a0_1 a0_2 a0_3 a0_4 a0_5 a0_6 a0_7 a0_8 a0_9 a0_10 a0_11 a0_12 a0_13 a0_14 a0_15 args => g_i64x2 args fun a1_0 a1_1 args => aI .i64 args fun a2 args => aN args (some { o := vesperslaw21_StartupJoins.f a0_0 a0_1 a0_2 a0_3 a0_4 a0_5 a0_6 a0_7 a0_8 a0_9 a0_10 a0_11 a0_12 a0_13 a0_14 a0_15 a1_0 a1_1 a2, enc := r_bool.enc })
theorem vesperslaw21_StartupJoins.ok : EntryOK Try.prog 4 vesperslaw21_StartupJoins.c := by
  intro args H c h r hr ρ hn w xs hx hrel
  unfold vesperslaw21_StartupJoins.c at h
  obtain ⟨a0_0, a0_1, a0_2, a0_3, a0_4, a0_5, a0_6, a0_7, a0_8, a0_9, a0_10, a0_11, a0_12, a0_13, a0_14, a0_15, xs, args, rfl, hx, h⟩ := g_i64x16_ok h hx
  obtain ⟨a1_0, a1_1, xs, args, rfl, hx, h⟩ := g_i64x2_ok h hx
  obtain ⟨a2, xs, args, rfl, hx, h⟩ := aI_ok h hx
  obtain ⟨rfl, h⟩ := aN_ok h hx
  cases h
  refine (vesperslaw21_StartupJoins.calls a0_0 a0_1 a0_2 a0_3 a0_4 a0_5 a0_6 a0_7 a0_8 a0_9 a0_10 a0_11 a0_12 a0_13 a0_14 a0_15 a1_0 a1_1 a2 r w hr).mono ?_
  rintro e w' ⟨rfl, hb⟩
  exact ⟨_, rfl, r_bool.enc_rel ρ r, hrel.below hb, Eff.of_below hb⟩
noncomputable def t_vesperslaw21_StartupJoins : List (Nat × Entry) := (4, vesperslaw21_StartupJoins.c) :: t_vesperslaw21_StartupDue
theorem t_vesperslaw21_StartupJoins_ok : TabOK Try.prog t_vesperslaw21_StartupJoins := TabOK.cons vesperslaw21_StartupJoins.ok t_vesperslaw21_StartupDue_ok
/-- The pure statement of vesperslaw21_StartupDue. -/
def vesperslaw21_StartupDue.Pure : Prop := ∀ (a0_0 : Int) (a0_1 : Int) (a0_2 : Int) (a0_3 : Int) (a0_4 : Int) (a0_5 : Int) (a0_6 : Int) (a0_7 : Int) (a0_8 : Int) (a0_9 : Int) (a0_10 : Int) (a0_11 : Int) (a0_12 : Int) (a0_13 : Int) (a0_14 : Int) (a0_15 : Int) (a1_0 : Int) (a1_1 : Int) (a1_2 : Int) (a1_3 : Int) (a1_4 : Bool) (a1_5 : Int) (a2 : Int), (Lit.int .i64 a0_0).wf = true → (Lit.int .i64 a0_1).wf = true → (Lit.int .i64 a0_2).wf = true → (Lit.int .i64 a0_3).wf = true → (Lit.int .i64 a0_4).wf = true → (Lit.int .i64 a0_5).wf = true → (Lit.int .i64 a0_6).wf = true → (Lit.int .i64 a0_7).wf = true → (Lit.int .i64 a0_8).wf = true → (Lit.int .i64 a0_9).wf = true → (Lit.int .i64 a0_10).wf = true → (Lit.int .i64 a0_11).wf = true → (Lit.int .i64 a0_12).wf = true → (Lit.int .i64 a0_13).wf = true → (Lit.int .i64 a0_14).wf = true → (Lit.int .i64 a0_15).wf = true → (Lit.int .i64 a1_0).wf = true → (Lit.int .i64 a1_1).wf = true → (Lit.int .i64 a1_2).wf = true → (Lit.int .i64 a1_3).wf = true → (Lit.int .i64 a1_5).wf = true → (Lit.int .i64 a2).wf = true → vesperslaw21_StartupDue.f a0_0 a0_1 a0_2 a0_3 a0_4 a0_5 a0_6 a0_7 a0_8 a0_9 a0_10 a0_11 a0_12 a0_13 a0_14 a0_15 a1_0 a1_1 a1_2 a1_3 a1_4 a1_5 a2 = some true
theorem vesperslaw21_StartupDue.walk (P : vesperslaw21_StartupDue.Pure) (a0_0 : Int) (a0_1 : Int) (a0_2 : Int) (a0_3 : Int) (a0_4 : Int) (a0_5 : Int) (a0_6 : Int) (a0_7 : Int) (a0_8 : Int) (a0_9 : Int) (a0_10 : Int) (a0_11 : Int) (a0_12 : Int) (a0_13 : Int) (a0_14 : Int) (a0_15 : Int) (a1_0 : Int) (a1_1 : Int) (a1_2 : Int) (a1_3 : Int) (a1_4 : Bool) (a1_5 : Int) (a2 : Int) (w : World) (w0_0 : (Lit.int .i64 a0_0).wf = true) (w0_1 : (Lit.int .i64 a0_1).wf = true) (w0_2 : (Lit.int .i64 a0_2).wf = true) (w0_3 : (Lit.int .i64 a0_3).wf = true) (w0_4 : (Lit.int .i64 a0_4).wf = true) (w0_5 : (Lit.int .i64 a0_5).wf = true) (w0_6 : (Lit.int .i64 a0_6).wf = true) (w0_7 : (Lit.int .i64 a0_7).wf = true) (w0_8 : (Lit.int .i64 a0_8).wf = true) (w0_9 : (Lit.int .i64 a0_9).wf = true) (w0_10 : (Lit.int .i64 a0_10).wf = true) (w0_11 : (Lit.int .i64 a0_11).wf = true) (w0_12 : (Lit.int .i64 a0_12).wf = true) (w0_13 : (Lit.int .i64 a0_13).wf = true) (w0_14 : (Lit.int .i64 a0_14).wf = true) (w0_15 : (Lit.int .i64 a0_15).wf = true) (w1_0 : (Lit.int .i64 a1_0).wf = true) (w1_1 : (Lit.int .i64 a1_1).wf = true) (w1_2 : (Lit.int .i64 a1_2).wf = true) (w1_3 : (Lit.int .i64 a1_3).wf = true) (w1_5 : (Lit.int .i64 a1_5).wf = true) (w2 : (Lit.int .i64 a2).wf = true) :
    Calls Try.prog 3 #[.agg #[.int .i64 a0_0, .int .i64 a0_1, .int .i64 a0_2, .int .i64 a0_3, .int .i64 a0_4, .int .i64 a0_5, .int .i64 a0_6, .int .i64 a0_7, .int .i64 a0_8, .int .i64 a0_9, .int .i64 a0_10, .int .i64 a0_11, .int .i64 a0_12, .int .i64 a0_13, .int .i64 a0_14, .int .i64 a0_15], .agg #[.int .i64 a1_0, .int .i64 a1_1, .int .i64 a1_2, .int .i64 a1_3, .bool a1_4, .int .i64 a1_5], .int .i64 a2] w fun e w' => e = .returned (.bool true) ∧ Below w.heap.size w w' :=
  vesperslaw21_StartupDue.calls a0_0 a0_1 a0_2 a0_3 a0_4 a0_5 a0_6 a0_7 a0_8 a0_9 a0_10 a0_11 a0_12 a0_13 a0_14 a0_15 a1_0 a1_1 a1_2 a1_3 a1_4 a1_5 a2 true w (P a0_0 a0_1 a0_2 a0_3 a0_4 a0_5 a0_6 a0_7 a0_8 a0_9 a0_10 a0_11 a0_12 a0_13 a0_14 a0_15 a1_0 a1_1 a1_2 a1_3 a1_4 a1_5 a2 w0_0 w0_1 w0_2 w0_3 w0_4 w0_5 w0_6 w0_7 w0_8 w0_9 w0_10 w0_11 w0_12 w0_13 w0_14 w0_15 w1_0 w1_1 w1_2 w1_3 w1_5 w2)
/-- The pure statement of vesperslaw21_StartupJoins. -/
def vesperslaw21_StartupJoins.Pure : Prop := ∀ (a0_0 : Int) (a0_1 : Int) (a0_2 : Int) (a0_3 : Int) (a0_4 : Int) (a0_5 : Int) (a0_6 : Int) (a0_7 : Int) (a0_8 : Int) (a0_9 : Int) (a0_10 : Int) (a0_11 : Int) (a0_12 : Int) (a0_13 : Int) (a0_14 : Int) (a0_15 : Int) (a1_0 : Int) (a1_1 : Int) (a2 : Int), (Lit.int .i64 a0_0).wf = true → (Lit.int .i64 a0_1).wf = true → (Lit.int .i64 a0_2).wf = true → (Lit.int .i64 a0_3).wf = true → (Lit.int .i64 a0_4).wf = true → (Lit.int .i64 a0_5).wf = true → (Lit.int .i64 a0_6).wf = true → (Lit.int .i64 a0_7).wf = true → (Lit.int .i64 a0_8).wf = true → (Lit.int .i64 a0_9).wf = true → (Lit.int .i64 a0_10).wf = true → (Lit.int .i64 a0_11).wf = true → (Lit.int .i64 a0_12).wf = true → (Lit.int .i64 a0_13).wf = true → (Lit.int .i64 a0_14).wf = true → (Lit.int .i64 a0_15).wf = true → (Lit.int .i64 a1_0).wf = true → (Lit.int .i64 a1_1).wf = true → (Lit.int .i64 a2).wf = true → vesperslaw21_StartupJoins.f a0_0 a0_1 a0_2 a0_3 a0_4 a0_5 a0_6 a0_7 a0_8 a0_9 a0_10 a0_11 a0_12 a0_13 a0_14 a0_15 a1_0 a1_1 a2 = some true
theorem vesperslaw21_StartupJoins.walk (P : vesperslaw21_StartupJoins.Pure) (a0_0 : Int) (a0_1 : Int) (a0_2 : Int) (a0_3 : Int) (a0_4 : Int) (a0_5 : Int) (a0_6 : Int) (a0_7 : Int) (a0_8 : Int) (a0_9 : Int) (a0_10 : Int) (a0_11 : Int) (a0_12 : Int) (a0_13 : Int) (a0_14 : Int) (a0_15 : Int) (a1_0 : Int) (a1_1 : Int) (a2 : Int) (w : World) (w0_0 : (Lit.int .i64 a0_0).wf = true) (w0_1 : (Lit.int .i64 a0_1).wf = true) (w0_2 : (Lit.int .i64 a0_2).wf = true) (w0_3 : (Lit.int .i64 a0_3).wf = true) (w0_4 : (Lit.int .i64 a0_4).wf = true) (w0_5 : (Lit.int .i64 a0_5).wf = true) (w0_6 : (Lit.int .i64 a0_6).wf = true) (w0_7 : (Lit.int .i64 a0_7).wf = true) (w0_8 : (Lit.int .i64 a0_8).wf = true) (w0_9 : (Lit.int .i64 a0_9).wf = true) (w0_10 : (Lit.int .i64 a0_10).wf = true) (w0_11 : (Lit.int .i64 a0_11).wf = true) (w0_12 : (Lit.int .i64 a0_12).wf = true) (w0_13 : (Lit.int .i64 a0_13).wf = true) (w0_14 : (Lit.int .i64 a0_14).wf = true) (w0_15 : (Lit.int .i64 a0_15).wf = true) (w1_0 : (Lit.int .i64 a1_0).wf = true) (w1_1 : (Lit.int .i64 a1_1).wf = true) (w2 : (Lit.int .i64 a2).wf = true) :
    Calls Try.prog 4 #[.agg #[.int .i64 a0_0, .int .i64 a0_1, .int .i64 a0_2, .int .i64 a0_3, .int .i64 a0_4, .int .i64 a0_5, .int .i64 a0_6, .int .i64 a0_7, .int .i64 a0_8, .int .i64 a0_9, .int .i64 a0_10, .int .i64 a0_11, .int .i64 a0_12, .int .i64 a0_13, .int .i64 a0_14, .int .i64 a0_15], .agg #[.int .i64 a1_0, .int .i64 a1_1], .int .i64 a2] w fun e w' => e = .returned (.bool true) ∧ Below w.heap.size w w' :=
  vesperslaw21_StartupJoins.calls a0_0 a0_1 a0_2 a0_3 a0_4 a0_5 a0_6 a0_7 a0_8 a0_9 a0_10 a0_11 a0_12 a0_13 a0_14 a0_15 a1_0 a1_1 a2 true w (P a0_0 a0_1 a0_2 a0_3 a0_4 a0_5 a0_6 a0_7 a0_8 a0_9 a0_10 a0_11 a0_12 a0_13 a0_14 a0_15 a1_0 a1_1 a2 w0_0 w0_1 w0_2 w0_3 w0_4 w0_5 w0_6 w0_7 w0_8 w0_9 w0_10 w0_11 w0_12 w0_13 w0_14 w0_15 w1_0 w1_1 w2)
noncomputable abbrev tab_S2 : List (Nat × Entry) := t_vesperslaw21_StartupJoins
theorem tab_S2_ok : TabOK Try.prog tab_S2 := t_vesperslaw21_StartupJoins_ok
end Go.Proofs.YtoachpilnanghaaRRR.S
