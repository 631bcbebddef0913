/- Contracts by the symbolic walk: vespersref07_numbers, vespersref07_first, vespersref07_Fails, vespersref07_Check, vespersref07_Round, vespersref09_Has, vespersref09_Begin, vespersref09_Next, vespersref09_Apart, vespersref09_Full, vespersref09_Middle, vespersref09_Sends, vespersref09_Expected, vespersref09_Listen, vespersref09_Wait, vespersref09_Of. -/
import Derived.Test.YtmbgjbliamhkmaaProg
import Derived.Test.YtmbgjbliamhkmaaSXk
import Derived.Test.YtmbgjbliamhkmaaS0
namespace Go.Proofs.Ytmbgjbliamhkmaa.S
open Go Go.RowKit Go.Proofs.Ytmbgjbliamhkmaa.SX Go.Proofs
set_option linter.unusedVariables false
noncomputable section
def r_i64_i64_i64.dec : AV → Heap → Nat → Option (Int × Int × Int)
  | .tup [x0, x1, x2], _, _ => (dI .i64 x0).bind fun n0 => (dI .i64 x1).bind fun n1 => (dI .i64 x2).bind fun n2 => some (n0, n1, n2)
  | _, _, _ => none
def r_i64_i64_i64.enc (r : Int × Int × Int) : AV := .tup [.int .i64 (.s r.1), .int .i64 (.s r.2.1), .int .i64 (.s r.2.2)]
abbrev r_i64_i64_i64.val (r : Int × Int × Int) : Value := .tuple #[.int .i64 r.1, .int .i64 r.2.1, .int .i64 r.2.2]
theorem r_i64_i64_i64.enc_rel (ρ : Pl) (r : Int × Int × Int) : (r_i64_i64_i64.enc r).rel ρ (r_i64_i64_i64.val r) := AV.flat_rel _ rfl
theorem r_i64_i64_i64.ok {v : AV} {H : Heap} {hn : Nat} {r : Int × Int × Int} {ρ : Pl} {x : Value} (h : r_i64_i64_i64.dec v H hn = some r) (hx : v.rel ρ x) : x = r_i64_i64_i64.val r := by
  unfold r_i64_i64_i64.dec at h
  split at h
  · obtain ⟨n0, e0, h⟩ := Option.bind_eq_some_iff.1 h
    obtain ⟨n1, e1, h⟩ := Option.bind_eq_some_iff.1 h
    obtain ⟨n2, e2, h⟩ := Option.bind_eq_some_iff.1 h
    cases h
    obtain ⟨z, hx, rfl⟩ := hx
    obtain ⟨y1, y2, hy1, hx, rfl⟩ := hx
    obtain rfl := dI_ok e0 hy1
    obtain ⟨y3, y4, hy3, hx, rfl⟩ := hx
    obtain rfl := dI_ok e1 hy3
    obtain ⟨y5, y6, hy5, hx, rfl⟩ := hx
    obtain rfl := dI_ok e2 hy5
    obtain rfl := (show _ = [] from hx)
    rfl
  · cases h
def vespersref07_numbers.f (a0_0 : Int) (a0_1 : Int) (a0_2 : Int) (a0_3 : Int) (a0_4 : Int) (a0_5 : Int) (a0_6 : Int) (a0_7 : Int) (a0_8 : Int) (a0_9 : Int) (a0_10 : Int) (a0_11 : Int) (a0_12 : Int) (a0_13 : Int) (a0_14 : Int) (a0_15 : Int) : Option (Int × Int × Int) :=
  (if a0_8 = 0 then none else some (wrap64 (wrap64 (a0_7 - a0_6) + 6), wrap64 (2 * wrap64 (wrap64 ((wrap64 (2 * wrap64 (a0_0 * a0_2))).tdiv a0_8) + 4)), wrap64 (2 * wrap64 (wrap64 (wrap64 (a0_7 - a0_6) + 6) + wrap64 (2 * wrap64 (wrap64 ((wrap64 (2 * wrap64 (a0_0 * a0_2))).tdiv a0_8) + 4))))))
set_option maxRecDepth 100000 in
theorem vespersref07_numbers.calls (a0_0 : Int) (a0_1 : Int) (a0_2 : Int) (a0_3 : Int) (a0_4 : Int) (a0_5 : Int) (a0_6 : Int) (a0_7 : Int) (a0_8 : Int) (a0_9 : Int) (a0_10 : Int) (a0_11 : Int) (a0_12 : Int) (a0_13 : Int) (a0_14 : Int) (a0_15 : Int) (r1 : Int) (r2 : Int) (r3 : Int) (w : World) (h : vespersref07_numbers.f a0_0 a0_1 a0_2 a0_3 a0_4 a0_5 a0_6 a0_7 a0_8 a0_9 a0_10 a0_11 a0_12 a0_13 a0_14 a0_15 = some (r1, r2, r3)) :
    Calls Try.prog 57 #[.agg #[.int .i64 a0_0, .int .i64 a0_1, .int .i64 a0_2, .int .i64 a0_3, .int .i64 a0_4, .int .i64 a0_5, .int .i64 a0_6, .int .i64 a0_7, .int .i64 a0_8, .int .i64 a0_9, .int .i64 a0_10, .int .i64 a0_11, .int .i64 a0_12, .int .i64 a0_13, .int .i64 a0_14, .int .i64 a0_15]] w fun e w' => e = .returned (.tuple #[.int .i64 r1, .int .i64 r2, .int .i64 r3]) ∧ Below w.heap.size w w' := by
  have ht : (walk Try.prog (ctOf tab_S0) noL 100000 57 [.agg [.int .i64 (.s a0_0), .int .i64 (.s a0_1), .int .i64 (.s a0_2), .int .i64 (.s a0_3), .int .i64 (.s a0_4), .int .i64 (.s a0_5), .int .i64 (.s a0_6), .int .i64 (.s a0_7), .int .i64 (.s a0_8), .int .i64 (.s a0_9), .int .i64 (.s a0_10), .int .i64 (.s a0_11), .int .i64 (.s a0_12), .int .i64 (.s a0_13), .int .i64 (.s a0_14), .int .i64 (.s a0_15)]] [] 0).opt r_i64_i64_i64.dec = vespersref07_numbers.f a0_0 a0_1 a0_2 a0_3 a0_4 a0_5 a0_6 a0_7 a0_8 a0_9 a0_10 a0_11 a0_12 a0_13 a0_14 a0_15 := by kernel_rfl
  exact calls_of named mixed tab_S0_ok.ct noL_ok ht h (by kernel_rfl) (by kernel_rfl) w fun _ _ _ _ _ hd hx => r_i64_i64_i64.ok hd hx
noncomputable def vespersref07_numbers.c : Entry := fun args _ => g_i64x16 args fun a0_0 a0_1 a0_2 a0_3 a0_4 a0_5 a0_6 a0_7 a0_8 a0_9 a0_10 a0_11 a0_12 a0_13 a0_14 a0_15 args => aN args (some { o := vespersref07_numbers.f a0_0 a0_1 a0_2 a0_3 a0_4 a0_5 a0_6 a0_7 a0_8 a0_9 a0_10 a0_11 a0_12 a0_13 a0_14 a0_15, enc := r_i64_i64_i64.enc })
theorem vespersref07_numbers.ok : EntryOK Try.prog 57 vespersref07_numbers.c := by
  intro args H c h r hr ρ hn w xs hx hrel
  unfold vespersref07_numbers.c at h
  obtain ⟨a0_0, a0_1, a0_2, a0_3, a0_4, a0_5, a0_6, a0_7, a0_8, a0_9, a0_10, a0_11, a0_12, a0_13, a0_14, a0_15, xs, args, rfl, hx, h⟩ := g_i64x16_ok h hx
  obtain ⟨rfl, h⟩ := aN_ok h hx
  cases h
  obtain ⟨r1, r2, r3⟩ := r
  refine (vespersref07_numbers.calls a0_0 a0_1 a0_2 a0_3 a0_4 a0_5 a0_6 a0_7 a0_8 a0_9 a0_10 a0_11 a0_12 a0_13 a0_14 a0_15 r1 r2 r3 w hr).mono ?_
  rintro e w' ⟨rfl, hb⟩
  exact ⟨_, rfl, r_i64_i64_i64.enc_rel ρ (r1, r2, r3), hrel.below hb, Eff.of_below hb⟩
noncomputable def t_vespersref07_numbers : List (Nat × Entry) := (57, vespersref07_numbers.c) :: tab_S0
theorem t_vespersref07_numbers_ok : TabOK Try.prog t_vespersref07_numbers := TabOK.cons vespersref07_numbers.ok tab_S0_ok
def vespersref07_first.f (a0_0 : Int) (a0_1 : Int) (a0_2 : Int) (a0_3 : Int) (a0_4 : Int) (a0_5 : Int) (a0_6 : Int) (a0_7 : Int) (a0_8 : Int) (a0_9 : Int) (a0_10 : Int) (a0_11 : Int) (a0_12 : Int) (a0_13 : Int) (a0_14 : Int) (a0_15 : Int) : Option Int :=
  (if a0_0 < 4 then some 1 else (if a0_0 > 16 then some 1 else (if a0_1 < 0 then some 1 else (if a0_1 > 16 then some 1 else (if a0_0 < wrap64 (wrap64 (2 * a0_1) + 2) then some 1 else (if a0_5 < 1 then some 2 else (if a0_5 > 1048576 then some 2 else (if a0_6 < 0 then some 2 else (if a0_7 < a0_6 then some 2 else (if a0_7 > 1048576 then some 2 else (if a0_2 < 1 then some 3 else (if a0_2 > 1048576 then some 3 else (if a0_8 < 4 then some 3 else (if a0_8 > 1048576 then some 3 else some 0))))))))))))))
set_option maxRecDepth 100000 in
theorem vespersref07_first.calls (a0_0 : Int) (a0_1 : Int) (a0_2 : Int) (a0_3 : Int) (a0_4 : Int) (a0_5 : Int) (a0_6 : Int) (a0_7 : Int) (a0_8 : Int) (a0_9 : Int) (a0_10 : Int) (a0_11 : Int) (a0_12 : Int) (a0_13 : Int) (a0_14 : Int) (a0_15 : Int) (r : Int) (w : World) (h : vespersref07_first.f a0_0 a0_1 a0_2 a0_3 a0_4 a0_5 a0_6 a0_7 a0_8 a0_9 a0_10 a0_11 a0_12 a0_13 a0_14 a0_15 = some r) :
    Calls Try.prog 47 #[.agg #[.int .i64 a0_0, .int .i64 a0_1, .int .i64 a0_2, .int .i64 a0_3, .int .i64 a0_4, .int .i64 a0_5, .int .i64 a0_6, .int .i64 a0_7, .int .i64 a0_8, .int .i64 a0_9, .int .i64 a0_10, .int .i64 a0_11, .int .i64 a0_12, .int .i64 a0_13, .int .i64 a0_14, .int .i64 a0_15]] w fun e w' => e = .returned (.int .i64 r) ∧ Below w.heap.size w w' := by
  have ht : (walk Try.prog (ctOf t_vespersref07_numbers) noL 100000 47 [.agg [.int .i64 (.s a0_0), .int .i64 (.s a0_1), .int .i64 (.s a0_2), .int .i64 (.s a0_3), .int .i64 (.s a0_4), .int .i64 (.s a0_5), .int .i64 (.s a0_6), .int .i64 (.s a0_7), .int .i64 (.s a0_8), .int .i64 (.s a0_9), .int .i64 (.s a0_10), .int .i64 (.s a0_11), .int .i64 (.s a0_12), .int .i64 (.s a0_13), .int .i64 (.s a0_14), .int .i64 (.s a0_15)]] [] 0).opt r_i64.dec = vespersref07_first.f a0_0 a0_1 a0_2 a0_3 a0_4 a0_5 a0_6 a0_7 a0_8 a0_9 a0_10 a0_11 a0_12 a0_13 a0_14 a0_15 := by kernel_rfl
  exact calls_of named mixed t_vespersref07_numbers_ok.ct noL_ok ht h (by kernel_rfl) (by kernel_rfl) w fun _ _ _ _ _ hd hx => r_i64.ok hd hx
noncomputable def vespersref07_first.c : Entry := fun args _ => g_i64x16 args fun a0_0 a0_1 a0_2 a0_3 a0_4 a0_5 a0_6 a0_7 a0_8 a0_9 a0_10 a0_11 a0_12 a0_13 a0_14 a0_15 args => aN args (some { o := vespersref07_first.f a0_0 a0_1 a0_2 a0_3 a0_4 a0_5 a0_6 a0_7 a0_8 a0_9 a0_10 a0_11 a0_12 a0_13 a0_14 a0_15, enc := r_i64.enc })
theorem vespersref07_first.ok : EntryOK Try.prog 47 vespersref07_first.c := by
  intro args H c h r hr ρ hn w xs hx hrel
  unfold vespersref07_first.c at h
  obtain ⟨a0_0, a0_1, a0_2, a0_3, a0_4, a0_5, a0_6, a0_7, a0_8, a0_9, a0_10, a0_11, a0_12, a0_13, a0_14, a0_15, xs, args, rfl, hx, h⟩ := g_i64x16_ok h hx
  obtain ⟨rfl, h⟩ := aN_ok h hx
  cases h
  refine (vespersref07_first.calls a0_0 a0_1 a0_2 a0_3 a0_4 a0_5 a0_6 a0_7 a0_8 a0_9 a0_10 a0_11 a0_12 a0_13 a0_14 a0_15 r w hr).mono ?_
  rintro e w' ⟨rfl, hb⟩
  exact ⟨_, rfl, r_i64.enc_rel ρ r, hrel.below hb, Eff.of_below hb⟩
noncomputable def t_vespersref07_first : List (Nat × Entry) := (47, vespersref07_first.c) :: t_vespersref07_numbers
theorem t_vespersref07_first_ok : TabOK Try.prog t_vespersref07_first := TabOK.cons vespersref07_first.ok t_vespersref07_numbers_ok
def vespersref07_Fails.f (a0_0 : Int) (a0_1 : Int) (a0_2 : Int) (a0_3 : Int) (a0_4 : Int) (a0_5 : Int) (a0_6 : Int) (a0_7 : Int) (a0_8 : Int) (a0_9 : Int) (a0_10 : Int) (a0_11 : Int) (a0_12 : Int) (a0_13 : Int) (a0_14 : Int) (a0_15 : Int) : Option Int :=
  ((vespersref07_first.f a0_0 a0_1 a0_2 a0_3 a0_4 a0_5 a0_6 a0_7 a0_8 a0_9 a0_10 a0_11 a0_12 a0_13 a0_14 a0_15).bind fun t0 => (if t0 > 0 then some t0 else ((vespersref07_numbers.f a0_0 a0_1 a0_2 a0_3 a0_4 a0_5 a0_6 a0_7 a0_8 a0_9 a0_10 a0_11 a0_12 a0_13 a0_14 a0_15).bind fun t1 => (if a0_9 < wrap64 (wrap64 (2 * wrap64 (t1.snd.snd + t1.snd.fst)) + t1.fst) then some 4 else (if a0_9 > 1048576 then some 4 else (if a0_4 < wrap64 (a0_9 + t1.fst) then some 5 else (if a0_4 > 1048576 then some 5 else (if a0_10 < wrap64 (wrap64 (t1.snd.snd + wrap64 (2 * t1.snd.fst)) + wrap64 (2 * t1.fst)) then some 6 else (if a0_10 > 1048576 then some 6 else (if a0_3 < wrap64 (wrap64 (a0_4 + a0_10) + a0_9) then some 7 else (if a0_3 > 1048576 then some 7 else (if a0_2 < wrap64 (wrap64 (wrap64 (wrap64 (wrap64 (wrap64 (a0_3 + a0_4) + wrap64 (2 * a0_7)) + wrap64 (2 * a0_5)) + a0_10) + a0_9) + 8) then some 8 else (if a0_12 < 1 then some 9 else (if a0_12 > 64 then some 9 else (if a0_13 < 1 then some 9 else (if a0_13 > 8 then some 9 else (if a0_14 < 1 then some 9 else (if a0_14 > 32 then some 9 else (if a0_13 = 0 then none else (if wrap64 (wrap64 (a0_12.tdiv a0_13) * a0_13) < a0_12 then (if a0_11 < wrap64 (wrap64 (wrap64 (wrap64 (wrap64 (a0_12.tdiv a0_13) + 1) + 3) * wrap64 (a0_0 * a0_2)) + wrap64 (2 * a0_9)) then some 10 else (if a0_11 > wrap64 (64 * wrap64 (a0_0 * a0_2)) then some 10 else (if a0_15 < wrap64 (40 * wrap64 (a0_0 * a0_2)) then some 11 else (if a0_15 > 2147483648 then some 11 else some 0)))) else (if a0_11 < wrap64 (wrap64 (wrap64 (wrap64 (a0_12.tdiv a0_13) + 3) * wrap64 (a0_0 * a0_2)) + wrap64 (2 * a0_9)) then some 10 else (if a0_11 > wrap64 (64 * wrap64 (a0_0 * a0_2)) then some 10 else (if a0_15 < wrap64 (40 * wrap64 (a0_0 * a0_2)) then some 11 else (if a0_15 > 2147483648 then some 11 else some 0))))))))))))))))))))))))
set_option maxRecDepth 100000 in
theorem vespersref07_Fails.calls (a0_0 : Int) (a0_1 : Int) (a0_2 : Int) (a0_3 : Int) (a0_4 : Int) (a0_5 : Int) (a0_6 : Int) (a0_7 : Int) (a0_8 : Int) (a0_9 : Int) (a0_10 : Int) (a0_11 : Int) (a0_12 : Int) (a0_13 : Int) (a0_14 : Int) (a0_15 : Int) (r : Int) (w : World) (h : vespersref07_Fails.f a0_0 a0_1 a0_2 a0_3 a0_4 a0_5 a0_6 a0_7 a0_8 a0_9 a0_10 a0_11 a0_12 a0_13 a0_14 a0_15 = some r) :
    Calls Try.prog 49 #[.agg #[.int .i64 a0_0, .int .i64 a0_1, .int .i64 a0_2, .int .i64 a0_3, .int .i64 a0_4, .int .i64 a0_5, .int .i64 a0_6, .int .i64 a0_7, .int .i64 a0_8, .int .i64 a0_9, .int .i64 a0_10, .int .i64 a0_11, .int .i64 a0_12, .int .i64 a0_13, .int .i64 a0_14, .int .i64 a0_15]] w fun e w' => e = .returned (.int .i64 r) ∧ Below w.heap.size w w' := by
  have ht : (walk Try.prog (ctOf t_vespersref07_first) noL 100000 49 [.agg [.int .i64 (.s a0_0), .int .i64 (.s a0_1), .int .i64 (.s a0_2), .int .i64 (.s a0_3), .int .i64 (.s a0_4), .int .i64 (.s a0_5), .int .i64 (.s a0_6), .int .i64 (.s a0_7), .int .i64 (.s a0_8), .int .i64 (.s a0_9), .int .i64 (.s a0_10), .int .i64 (.s a0_11), .int .i64 (.s a0_12), .int .i64 (.s a0_13), .int .i64 (.s a0_14), .int .i64 (.s a0_15)]] [] 0).opt r_i64.dec = vespersref07_Fails.f a0_0 a0_1 a0_2 a0_3 a0_4 a0_5 a0_6 a0_7 a0_8 a0_9 a0_10 a0_11 a0_12 a0_13 a0_14 a0_15 := by kernel_rfl
  exact calls_of named mixed t_vespersref07_first_ok.ct noL_ok ht h (by kernel_rfl) (by kernel_rfl) w fun _ _ _ _ _ hd hx => r_i64.ok hd hx
noncomputable def vespersref07_Fails.c : Entry := fun args _ => g_i64x16 args fun a0_0 a0_1 a0_2 a0_3 a0_4 a0_5 a0_6 a0_7 a0_8 a0_9 a0_10 a0_11 a0_12 a0_13 a0_14 a0_15 args => aN args (some { o := vespersref07_Fails.f a0_0 a0_1 a0_2 a0_3 a0_4 a0_5 a0_6 a0_7 a0_8 a0_9 a0_10 a0_11 a0_12 a0_13 a0_14 a0_15, enc := r_i64.enc })
theorem vespersref07_Fails.ok : EntryOK Try.prog 49 vespersref07_Fails.c := by
  intro args H c h r hr ρ hn w xs hx hrel
  unfold vespersref07_Fails.c at h
  obtain ⟨a0_0, a0_1, a0_2, a0_3, a0_4, a0_5, a0_6, a0_7, a0_8, a0_9, a0_10, a0_11, a0_12, a0_13, a0_14, a0_15, xs, args, rfl, hx, h⟩ := g_i64x16_ok h hx
  obtain ⟨rfl, h⟩ := aN_ok h hx
  cases h
  refine (vespersref07_Fails.calls a0_0 a0_1 a0_2 a0_3 a0_4 a0_5 a0_6 a0_7 a0_8 a0_9 a0_10 a0_11 a0_12 a0_13 a0_14 a0_15 r w hr).mono ?_
  rintro e w' ⟨rfl, hb⟩
  exact ⟨_, rfl, r_i64.enc_rel ρ r, hrel.below hb, Eff.of_below hb⟩
noncomputable def t_vespersref07_Fails : List (Nat × Entry) := (49, vespersref07_Fails.c) :: t_vespersref07_first
theorem t_vespersref07_Fails_ok : TabOK Try.prog t_vespersref07_Fails := TabOK.cons vespersref07_Fails.ok t_vespersref07_first_ok
def vespersref07_Check.f (a0_0 : Int) (a0_1 : Int) (a0_2 : Int) (a0_3 : Int) (a0_4 : Int) (a0_5 : Int) (a0_6 : Int) (a0_7 : Int) (a0_8 : Int) (a0_9 : Int) (a0_10 : Int) (a0_11 : Int) (a0_12 : Int) (a0_13 : Int) (a0_14 : Int) (a0_15 : Int) : Option Int :=
  ((vespersref07_Fails.f a0_0 a0_1 a0_2 a0_3 a0_4 a0_5 a0_6 a0_7 a0_8 a0_9 a0_10 a0_11 a0_12 a0_13 a0_14 a0_15).bind fun t0 => (if t0 > 0 then some 70 else some 0))
set_option maxRecDepth 100000 in
theorem vespersref07_Check.calls (a0_0 : Int) (a0_1 : Int) (a0_2 : Int) (a0_3 : Int) (a0_4 : Int) (a0_5 : Int) (a0_6 : Int) (a0_7 : Int) (a0_8 : Int) (a0_9 : Int) (a0_10 : Int) (a0_11 : Int) (a0_12 : Int) (a0_13 : Int) (a0_14 : Int) (a0_15 : Int) (r : Int) (w : World) (h : vespersref07_Check.f a0_0 a0_1 a0_2 a0_3 a0_4 a0_5 a0_6 a0_7 a0_8 a0_9 a0_10 a0_11 a0_12 a0_13 a0_14 a0_15 = some r) :
    Calls Try.prog 37 #[.agg #[.int .i64 a0_0, .int .i64 a0_1, .int .i64 a0_2, .int .i64 a0_3, .int .i64 a0_4, .int .i64 a0_5, .int .i64 a0_6, .int .i64 a0_7, .int .i64 a0_8, .int .i64 a0_9, .int .i64 a0_10, .int .i64 a0_11, .int .i64 a0_12, .int .i64 a0_13, .int .i64 a0_14, .int .i64 a0_15]] w fun e w' => e = .returned (.int .i64 r) ∧ Below w.heap.size w w' := by
  have ht : (walk Try.prog (ctOf t_vespersref07_Fails) noL 100000 37 [.agg [.int .i64 (.s a0_0), .int .i64 (.s a0_1), .int .i64 (.s a0_2), .int .i64 (.s a0_3), .int .i64 (.s a0_4), .int .i64 (.s a0_5), .int .i64 (.s a0_6), .int .i64 (.s a0_7), .int .i64 (.s a0_8), .int .i64 (.s a0_9), .int .i64 (.s a0_10), .int .i64 (.s a0_11), .int .i64 (.s a0_12), .int .i64 (.s a0_13), .int .i64 (.s a0_14), .int .i64 (.s a0_15)]] [] 0).opt r_i64.dec = vespersref07_Check.f a0_0 a0_1 a0_2 a0_3 a0_4 a0_5 a0_6 a0_7 a0_8 a0_9 a0_10 a0_11 a0_12 a0_13 a0_14 a0_15 := by kernel_rfl
  exact calls_of named mixed t_vespersref07_Fails_ok.ct noL_ok ht h (by kernel_rfl) (by kernel_rfl) w fun _ _ _ _ _ hd hx => r_i64.ok hd hx
noncomputable def vespersref07_Check.c : Entry := fun args _ => g_i64x16 args fun a0_0 a0_1 a0_2 a0_3 a0_4 a0_5 a0_6 a0_7 a0_8 a0_9 a0_10 a0_11 a0_12 a0_13 a0_14 a0_15 args => aN args (some { o := vespersref07_Check.f a0_0 a0_1 a0_2 a0_3 a0_4 a0_5 a0_6 a0_7 a0_8 a0_9 a0_10 a0_11 a0_12 a0_13 a0_14 a0_15, enc := r_i64.enc })
theorem vespersref07_Check.ok : EntryOK Try.prog 37 vespersref07_Check.c := by
  intro args H c h r hr ρ hn w xs hx hrel
  unfold vespersref07_Check.c at h
  obtain ⟨a0_0, a0_1, a0_2, a0_3, a0_4, a0_5, a0_6, a0_7, a0_8, a0_9, a0_10, a0_11, a0_12, a0_13, a0_14, a0_15, xs, args, rfl, hx, h⟩ := g_i64x16_ok h hx
  obtain ⟨rfl, h⟩ := aN_ok h hx
  cases h
  refine (vespersref07_Check.calls a0_0 a0_1 a0_2 a0_3 a0_4 a0_5 a0_6 a0_7 a0_8 a0_9 a0_10 a0_11 a0_12 a0_13 a0_14 a0_15 r w hr).mono ?_
  rintro e w' ⟨rfl, hb⟩
  exact ⟨_, rfl, r_i64.enc_rel ρ r, hrel.below hb, Eff.of_below hb⟩
noncomputable def t_vespersref07_Check : List (Nat × Entry) := (37, vespersref07_Check.c) :: t_vespersref07_Fails
theorem t_vespersref07_Check_ok : TabOK Try.prog t_vespersref07_Check := TabOK.cons vespersref07_Check.ok t_vespersref07_Fails_ok
def vespersref07_Round.f (a0_0 : Int) (a0_1 : Int) (a0_2 : Int) (a0_3 : Int) (a0_4 : Int) (a0_5 : Int) (a0_6 : Int) (a0_7 : Int) (a0_8 : Int) (a0_9 : Int) (a0_10 : Int) (a0_11 : Int) (a0_12 : Int) (a0_13 : Int) (a0_14 : Int) (a0_15 : Int) : Option Int :=
  ((vespersref07_first.f a0_0 a0_1 a0_2 a0_3 a0_4 a0_5 a0_6 a0_7 a0_8 a0_9 a0_10 a0_11 a0_12 a0_13 a0_14 a0_15).bind fun t0 => (if t0 > 0 then some 0 else some (wrap64 (a0_0 * a0_2))))
set_option maxRecDepth 100000 in
theorem vespersref07_Round.calls (a0_0 : Int) (a0_1 : Int) (a0_2 : Int) (a0_3 : Int) (a0_4 : Int) (a0_5 : Int) (a0_6 : Int) (a0_7 : Int) (a0_8 : Int) (a0_9 : Int) (a0_10 : Int) (a0_11 : Int) (a0_12 : Int) (a0_13 : Int) (a0_14 : Int) (a0_15 : Int) (r : Int) (w : World) (h : vespersref07_Round.f a0_0 a0_1 a0_2 a0_3 a0_4 a0_5 a0_6 a0_7 a0_8 a0_9 a0_10 a0_11 a0_12 a0_13 a0_14 a0_15 = some r) :
    Calls Try.prog 35 #[.agg #[.int .i64 a0_0, .int .i64 a0_1, .int .i64 a0_2, .int .i64 a0_3, .int .i64 a0_4, .int .i64 a0_5, .int .i64 a0_6, .int .i64 a0_7, .int .i64 a0_8, .int .i64 a0_9, .int .i64 a0_10, .int .i64 a0_11, .int .i64 a0_12, .int .i64 a0_13, .int .i64 a0_14, .int .i64 a0_15]] w fun e w' => e = .returned (.int .i64 r) ∧ Below w.heap.size w w' := by
  have ht : (walk Try.prog (ctOf t_vespersref07_Check) noL 100000 35 [.agg [.int .i64 (.s a0_0), .int .i64 (.s a0_1), .int .i64 (.s a0_2), .int .i64 (.s a0_3), .int .i64 (.s a0_4), .int .i64 (.s a0_5), .int .i64 (.s a0_6), .int .i64 (.s a0_7), .int .i64 (.s a0_8), .int .i64 (.s a0_9), .int .i64 (.s a0_10), .int .i64 (.s a0_11), .int .i64 (.s a0_12), .int .i64 (.s a0_13), .int .i64 (.s a0_14), .int .i64 (.s a0_15)]] [] 0).opt r_i64.dec = vespersref07_Round.f a0_0 a0_1 a0_2 a0_3 a0_4 a0_5 a0_6 a0_7 a0_8 a0_9 a0_10 a0_11 a0_12 a0_13 a0_14 a0_15 := by kernel_rfl
  exact calls_of named mixed t_vespersref07_Check_ok.ct noL_ok ht h (by kernel_rfl) (by kernel_rfl) w fun _ _ _ _ _ hd hx => r_i64.ok hd hx
noncomputable def vespersref07_Round.c : Entry := fun args _ => g_i64x16 args fun a0_0 a0_1 a0_2 a0_3 a0_4 a0_5 a0_6 a0_7 a0_8 a0_9 a0_10 a0_11 a0_12 a0_13 a0_14 a0_15 args => aN args (some { o := vespersref07_Round.f a0_0 a0_1 a0_2 a0_3 a0_4 a0_5 a0_6 a0_7 a0_8 a0_9 a0_10 a0_11 a0_12 a0_13 a0_14 a0_15, enc := r_i64.enc })
theorem vespersref07_Round.ok : EntryOK Try.prog 35 vespersref07_Round.c := by
  intro args H c h r hr ρ hn w xs hx hrel
  unfold vespersref07_Round.c at h
  obtain ⟨a0_0, a0_1, a0_2, a0_3, a0_4, a0_5, a0_6, a0_7, a0_8, a0_9, a0_10, a0_11, a0_12, a0_13, a0_14, a0_15, xs, args, rfl, hx, h⟩ := g_i64x16_ok h hx
  obtain ⟨rfl, h⟩ := aN_ok h hx
  cases h
  refine (vespersref07_Round.calls a0_0 a0_1 a0_2 a0_3 a0_4 a0_5 a0_6 a0_7 a0_8 a0_9 a0_10 a0_11 a0_12 a0_13 a0_14 a0_15 r w hr).mono ?_
  rintro e w' ⟨rfl, hb⟩
  exact ⟨_, rfl, r_i64.enc_rel ρ r, hrel.below hb, Eff.of_below hb⟩
noncomputable def t_vespersref07_Round : List (Nat × Entry) := (35, vespersref07_Round.c) :: t_vespersref07_Check
theorem t_vespersref07_Round_ok : TabOK Try.prog t_vespersref07_Round := TabOK.cons vespersref07_Round.ok t_vespersref07_Check_ok
def vespersref09_Has.f (a0_0 : Int) (a0_1 : Int) (a0_2 : Int) (a0_3 : Int) (a0_4 : Int) (a0_5 : Int) (a0_6 : Int) (a0_7 : Int) (a0_8 : Int) (a0_9 : Int) (a0_10 : Int) (a0_11 : Int) (a0_12 : Int) (a0_13 : Int) (a0_14 : Int) (a0_15 : Int) (a1_0 : Int) (a1_1 : Int) : Option Bool :=
  ((vespersref07_Check.f a0_0 a0_1 a0_2 a0_3 a0_4 a0_5 a0_6 a0_7 a0_8 a0_9 a0_10 a0_11 a0_12 a0_13 a0_14 a0_15).bind fun t0 => (if t0 ≠ 0 then some false else (if a1_1 ≥ 0 then (if a1_1 < a0_0 then (if a1_0 ≥ 0 then some (decide (a1_0 ≤ 2147483647)) else some false) else some false) else some false)))
set_option maxRecDepth 100000 in
theorem vespersref09_Has.calls (a0_0 : Int) (a0_1 : Int) (a0_2 : Int) (a0_3 : Int) (a0_4 : Int) (a0_5 : Int) (a0_6 : Int) (a0_7 : Int) (a0_8 : Int) (a0_9 : Int) (a0_10 : Int) (a0_11 : Int) (a0_12 : Int) (a0_13 : Int) (a0_14 : Int) (a0_15 : Int) (a1_0 : Int) (a1_1 : Int) (r : Bool) (w : World) (h : vespersref09_Has.f a0_0 a0_1 a0_2 a0_3 a0_4 a0_5 a0_6 a0_7 a0_8 a0_9 a0_10 a0_11 a0_12 a0_13 a0_14 a0_15 a1_0 a1_1 = some r) :
    Calls Try.prog 34 #[.agg #[.int .i64 a0_0, .int .i64 a0_1, .int .i64 a0_2, .int .i64 a0_3, .int .i64 a0_4, .int .i64 a0_5, .int .i64 a0_6, .int .i64 a0_7, .int .i64 a0_8, .int .i64 a0_9, .int .i64 a0_10, .int .i64 a0_11, .int .i64 a0_12, .int .i64 a0_13, .int .i64 a0_14, .int .i64 a0_15], .agg #[.int .i64 a1_0, .int .i64 a1_1]] w fun e w' => e = .returned (.bool r) ∧ Below w.heap.size w w' := by
  have ht : (walk Try.prog (ctOf t_vespersref07_Round) noL 100000 34 [.agg [.int .i64 (.s a0_0), .int .i64 (.s a0_1), .int .i64 (.s a0_2), .int .i64 (.s a0_3), .int .i64 (.s a0_4), .int .i64 (.s a0_5), .int .i64 (.s a0_6), .int .i64 (.s a0_7), .int .i64 (.s a0_8), .int .i64 (.s a0_9), .int .i64 (.s a0_10), .int .i64 (.s a0_11), .int .i64 (.s a0_12), .int .i64 (.s a0_13), .int .i64 (.s a0_14), .int .i64 (.s a0_15)], .agg [.int .i64 (.s a1_0), .int .i64 (.s a1_1)]] [] 0).opt r_bool.dec = vespersref09_Has.f a0_0 a0_1 a0_2 a0_3 a0_4 a0_5 a0_6 a0_7 a0_8 a0_9 a0_10 a0_11 a0_12 a0_13 a0_14 a0_15 a1_0 a1_1 := by kernel_rfl
  exact calls_of named mixed t_vespersref07_Round_ok.ct noL_ok ht h (by kernel_rfl) (by kernel_rfl) w fun _ _ _ _ _ hd hx => r_bool.ok hd hx
noncomputable def vespersref09_Has.c : Entry := fun args _ => g_i64x16 args fun a0_0 a0_1 a0_2 a0_3 a0_4 a0_5 a0_6 a0_7 a0_8 a0_9 a0_10 a0_11 a0_12 a0_13 a0_14 a0_15 args => g_i64x2 args fun a1_0 a1_1 args => aN args (some { o := vespersref09_Has.f a0_0 a0_1 a0_2 a0_3 a0_4 a0_5 a0_6 a0_7 a0_8 a0_9 a0_10 a0_11 a0_12 a0_13 a0_14 a0_15 a1_0 a1_1, enc := r_bool.enc })
theorem vespersref09_Has.ok : EntryOK Try.prog 34 vespersref09_Has.c := by
  intro args H c h r hr ρ hn w xs hx hrel
  unfold vespersref09_Has.c at h
  obtain ⟨a0_0, a0_1, a0_2, a0_3, a0_4, a0_5, a0_6, a0_7, a0_8, a0_9, a0_10, a0_11, a0_12, a0_13, a0_14, a0_15, xs, args, rfl, hx, h⟩ := g_i64x16_ok h hx
  obtain ⟨a1_0, a1_1, xs, args, rfl, hx, h⟩ := g_i64x2_ok h hx
  obtain ⟨rfl, h⟩ := aN_ok h hx
  cases h
  refine (vespersref09_Has.calls a0_0 a0_1 a0_2 a0_3 a0_4 a0_5 a0_6 a0_7 a0_8 a0_9 a0_10 a0_11 a0_12 a0_13 a0_14 a0_15 a1_0 a1_1 r w hr).mono ?_
  rintro e w' ⟨rfl, hb⟩
  exact ⟨_, rfl, r_bool.enc_rel ρ r, hrel.below hb, Eff.of_below hb⟩
noncomputable def t_vespersref09_Has : List (Nat × Entry) := (34, vespersref09_Has.c) :: t_vespersref07_Round
theorem t_vespersref09_Has_ok : TabOK Try.prog t_vespersref09_Has := TabOK.cons vespersref09_Has.ok t_vespersref07_Round_ok
def vespersref09_Begin.f (a0_0 : Int) (a0_1 : Int) (a0_2 : Int) (a0_3 : Int) (a0_4 : Int) (a0_5 : Int) (a0_6 : Int) (a0_7 : Int) (a0_8 : Int) (a0_9 : Int) (a0_10 : Int) (a0_11 : Int) (a0_12 : Int) (a0_13 : Int) (a0_14 : Int) (a0_15 : Int) (a1_0 : Int) (a1_1 : Int) : Option (Int × Int) :=
  ((vespersref09_Has.f a0_0 a0_1 a0_2 a0_3 a0_4 a0_5 a0_6 a0_7 a0_8 a0_9 a0_10 a0_11 a0_12 a0_13 a0_14 a0_15 a1_0 a1_1).bind fun t0 => (if (!t0) = true then some (0, 90) else ((vespersref07_Round.f a0_0 a0_1 a0_2 a0_3 a0_4 a0_5 a0_6 a0_7 a0_8 a0_9 a0_10 a0_11 a0_12 a0_13 a0_14 a0_15).bind fun t1 => some (wrap64 (wrap64 (a1_0 * t1) + wrap64 (a1_1 * a0_2)), 0))))
set_option maxRecDepth 100000 in
theorem vespersref09_Begin.calls (a0_0 : Int) (a0_1 : Int) (a0_2 : Int) (a0_3 : Int) (a0_4 : Int) (a0_5 : Int) (a0_6 : Int) (a0_7 : Int) (a0_8 : Int) (a0_9 : Int) (a0_10 : Int) (a0_11 : Int) (a0_12 : Int) (a0_13 : Int) (a0_14 : Int) (a0_15 : Int) (a1_0 : Int) (a1_1 : Int) (r1 : Int) (r2 : Int) (w : World) (h : vespersref09_Begin.f a0_0 a0_1 a0_2 a0_3 a0_4 a0_5 a0_6 a0_7 a0_8 a0_9 a0_10 a0_11 a0_12 a0_13 a0_14 a0_15 a1_0 a1_1 = some (r1, r2)) :
    Calls Try.prog 10 #[.agg #[.int .i64 a0_0, .int .i64 a0_1, .int .i64 a0_2, .int .i64 a0_3, .int .i64 a0_4, .int .i64 a0_5, .int .i64 a0_6, .int .i64 a0_7, .int .i64 a0_8, .int .i64 a0_9, .int .i64 a0_10, .int .i64 a0_11, .int .i64 a0_12, .int .i64 a0_13, .int .i64 a0_14, .int .i64 a0_15], .agg #[.int .i64 a1_0, .int .i64 a1_1]] w fun e w' => e = .returned (.tuple #[.int .i64 r1, .int .i64 r2]) ∧ Below w.heap.size w w' := by
  have ht : (walk Try.prog (ctOf t_vespersref09_Has) noL 100000 10 [.agg [.int .i64 (.s a0_0), .int .i64 (.s a0_1), .int .i64 (.s a0_2), .int .i64 (.s a0_3), .int .i64 (.s a0_4), .int .i64 (.s a0_5), .int .i64 (.s a0_6), .int .i64 (.s a0_7), .int .i64 (.s a0_8), .int .i64 (.s a0_9), .int .i64 (.s a0_10), .int .i64 (.s a0_11), .int .i64 (.s a0_12), .int .i64 (.s a0_13), .int .i64 (.s a0_14), .int .i64 (.s a0_15)], .agg [.int .i64 (.s a1_0), .int .i64 (.s a1_1)]] [] 0).opt r_i64_i64.dec = vespersref09_Begin.f a0_0 a0_1 a0_2 a0_3 a0_4 a0_5 a0_6 a0_7 a0_8 a0_9 a0_10 a0_11 a0_12 a0_13 a0_14 a0_15 a1_0 a1_1 := by kernel_rfl
  exact calls_of named mixed t_vespersref09_Has_ok.ct noL_ok ht h (by kernel_rfl) (by kernel_rfl) w fun _ _ _ _ _ hd hx => r_i64_i64.ok hd hx
noncomputable def vespersref09_Begin.c : Entry := fun args _ => g_i64x16 args fun a0_0 a0_1 a0_2 a0_3 a0_4 a0_5 a0_6 a0_7 a0_8 a0_9 a0_10 a0_11 a0_12 a0_13 a0_14 a0_15 args => g_i64x2 args fun a1_0 a1_1 args => aN args (some { o := vespersref09_Begin.f a0_0 a0_1 a0_2 a0_3 a0_4 a0_5 a0_6 a0_7 a0_8 a0_9 a0_10 a0_11 a0_12 a0_13 a0_14 a0_15 a1_0 a1_1, enc := r_i64_i64.enc })
theorem vespersref09_Begin.ok : EntryOK Try.prog 10 vespersref09_Begin.c := by
  intro args H c h r hr ρ hn w xs hx hrel
  unfold vespersref09_Begin.c at h
  obtain ⟨a0_0, a0_1, a0_2, a0_3, a0_4, a0_5, a0_6, a0_7, a0_8, a0_9, a0_10, a0_11, a0_12, a0_13, a0_14, a0_15, xs, args, rfl, hx, h⟩ := g_i64x16_ok h hx
  obtain ⟨a1_0, a1_1, xs, args, rfl, hx, h⟩ := g_i64x2_ok h hx
  obtain ⟨rfl, h⟩ := aN_ok h hx
  cases h
  obtain ⟨r1, r2⟩ := r
  refine (vespersref09_Begin.calls a0_0 a0_1 a0_2 a0_3 a0_4 a0_5 a0_6 a0_7 a0_8 a0_9 a0_10 a0_11 a0_12 a0_13 a0_14 a0_15 a1_0 a1_1 r1 r2 w hr).mono ?_
  rintro e w' ⟨rfl, hb⟩
  exact ⟨_, rfl, r_i64_i64.enc_rel ρ (r1, r2), hrel.below hb, Eff.of_below hb⟩
noncomputable def t_vespersref09_Begin : List (Nat × Entry) := (10, vespersref09_Begin.c) :: t_vespersref09_Has
theorem t_vespersref09_Begin_ok : TabOK Try.prog t_vespersref09_Begin := TabOK.cons vespersref09_Begin.ok t_vespersref09_Has_ok
def vespersref09_Next.f (a0_0 : Int) (a0_1 : Int) (a0_2 : Int) (a0_3 : Int) (a0_4 : Int) (a0_5 : Int) (a0_6 : Int) (a0_7 : Int) (a0_8 : Int) (a0_9 : Int) (a0_10 : Int) (a0_11 : Int) (a0_12 : Int) (a0_13 : Int) (a0_14 : Int) (a0_15 : Int) (a1_0 : Int) (a1_1 : Int) : Option (Int × Int × Int) :=
  ((vespersref09_Has.f a0_0 a0_1 a0_2 a0_3 a0_4 a0_5 a0_6 a0_7 a0_8 a0_9 a0_10 a0_11 a0_12 a0_13 a0_14 a0_15 a1_0 a1_1).bind fun t0 => (if wrap64 (a1_1 + 1) ≥ a0_0 then (if (!t0) = true then some (0, 0, 90) else (if wrap64 (a1_0 + 1) > 2147483647 then some (0, 0, 90) else some (wrap64 (a1_0 + 1), 0, 0))) else (if (!t0) = true then some (0, 0, 90) else (if a1_0 > 2147483647 then some (0, 0, 90) else some (a1_0, wrap64 (a1_1 + 1), 0)))))
set_option maxRecDepth 100000 in
theorem vespersref09_Next.calls (a0_0 : Int) (a0_1 : Int) (a0_2 : Int) (a0_3 : Int) (a0_4 : Int) (a0_5 : Int) (a0_6 : Int) (a0_7 : Int) (a0_8 : Int) (a0_9 : Int) (a0_10 : Int) (a0_11 : Int) (a0_12 : Int) (a0_13 : Int) (a0_14 : Int) (a0_15 : Int) (a1_0 : Int) (a1_1 : Int) (r1 : Int) (r2 : Int) (r3 : Int) (w : World) (h : vespersref09_Next.f a0_0 a0_1 a0_2 a0_3 a0_4 a0_5 a0_6 a0_7 a0_8 a0_9 a0_10 a0_11 a0_12 a0_13 a0_14 a0_15 a1_0 a1_1 = some (r1, r2, r3)) :
    Calls Try.prog 14 #[.agg #[.int .i64 a0_0, .int .i64 a0_1, .int .i64 a0_2, .int .i64 a0_3, .int .i64 a0_4, .int .i64 a0_5, .int .i64 a0_6, .int .i64 a0_7, .int .i64 a0_8, .int .i64 a0_9, .int .i64 a0_10, .int .i64 a0_11, .int .i64 a0_12, .int .i64 a0_13, .int .i64 a0_14, .int .i64 a0_15], .agg #[.int .i64 a1_0, .int .i64 a1_1]] w fun e w' => e = .returned (.tuple #[.agg #[.int .i64 r1, .int .i64 r2], .int .i64 r3]) ∧ Below w.heap.size w w' := by
  have ht : (walk Try.prog (ctOf t_vespersref09_Begin) noL 100000 14 [.agg [.int .i64 (.s a0_0), .int .i64 (.s a0_1), .int .i64 (.s a0_2), .int .i64 (.s a0_3), .int .i64 (.s a0_4), .int .i64 (.s a0_5), .int .i64 (.s a0_6), .int .i64 (.s a0_7), .int .i64 (.s a0_8), .int .i64 (.s a0_9), .int .i64 (.s a0_10), .int .i64 (.s a0_11), .int .i64 (.s a0_12), .int .i64 (.s a0_13), .int .i64 (.s a0_14), .int .i64 (.s a0_15)], .agg [.int .i64 (.s a1_0), .int .i64 (.s a1_1)]] [] 0).opt r_i64x2_i64.dec = vespersref09_Next.f a0_0 a0_1 a0_2 a0_3 a0_4 a0_5 a0_6 a0_7 a0_8 a0_9 a0_10 a0_11 a0_12 a0_13 a0_14 a0_15 a1_0 a1_1 := by kernel_rfl
  exact calls_of named mixed t_vespersref09_Begin_ok.ct noL_ok ht h (by kernel_rfl) (by kernel_rfl) w fun _ _ _ _ _ hd hx => r_i64x2_i64.ok hd hx
noncomputable def vespersref09_Next.c : Entry := fun args _ => g_i64x16 args fun a0_0 a0_1 a0_2 a0_3 a0_4 a0_5 a0_6 a0_7 a0_8 a0_9 a0_10 a0_11 a0_12 a0_13 a0_14 a0_15 args => g_i64x2 args fun a1_0 a1_1 args => aN args (some { o := vespersref09_Next.f a0_0 a0_1 a0_2 a0_3 a0_4 a0_5 a0_6 a0_7 a0_8 a0_9 a0_10 a0_11 a0_12 a0_13 a0_14 a0_15 a1_0 a1_1, enc := r_i64x2_i64.enc })
theorem vespersref09_Next.ok : EntryOK Try.prog 14 vespersref09_Next.c := by
  intro args H c h r hr ρ hn w xs hx hrel
  unfold vespersref09_Next.c at h
  obtain ⟨a0_0, a0_1, a0_2, a0_3, a0_4, a0_5, a0_6, a0_7, a0_8, a0_9, a0_10, a0_11, a0_12, a0_13, a0_14, a0_15, xs, args, rfl, hx, h⟩ := g_i64x16_ok h hx
  obtain ⟨a1_0, a1_1, xs, args, rfl, hx, h⟩ := g_i64x2_ok h hx
  obtain ⟨rfl, h⟩ := aN_ok h hx
  cases h
  obtain ⟨r1, r2, r3⟩ := r
  refine (vespersref09_Next.calls a0_0 a0_1 a0_2 a0_3 a0_4 a0_5 a0_6 a0_7 a0_8 a0_9 a0_10 a0_11 a0_12 a0_13 a0_14 a0_15 a1_0 a1_1 r1 r2 r3 w hr).mono ?_
  rintro e w' ⟨rfl, hb⟩
  exact ⟨_, rfl, r_i64x2_i64.enc_rel ρ (r1, r2, r3), hrel.below hb, Eff.of_below hb⟩
noncomputable def t_vespersref09_Next : List (Nat × Entry) := (14, vespersref09_Next.c) :: t_vespersref09_Begin
theorem t_vespersref09_Next_ok : TabOK Try.prog t_vespersref09_Next := TabOK.cons vespersref09_Next.ok t_vespersref09_Begin_ok
def vespersref09_Apart.f (a0_0 : Int) (a0_1 : Int) (a0_2 : Int) (a0_3 : Int) (a0_4 : Int) (a0_5 : Int) (a0_6 : Int) (a0_7 : Int) (a0_8 : Int) (a0_9 : Int) (a0_10 : Int) (a0_11 : Int) (a0_12 : Int) (a0_13 : Int) (a0_14 : Int) (a0_15 : Int) (a1_0 : Int) (a1_1 : Int) (a2_0 : Int) (a2_1 : Int) : Option (Int × Int) :=
  ((vespersref09_Begin.f a0_0 a0_1 a0_2 a0_3 a0_4 a0_5 a0_6 a0_7 a0_8 a0_9 a0_10 a0_11 a0_12 a0_13 a0_14 a0_15 a1_0 a1_1).bind fun t0 => ((vespersref09_Begin.f a0_0 a0_1 a0_2 a0_3 a0_4 a0_5 a0_6 a0_7 a0_8 a0_9 a0_10 a0_11 a0_12 a0_13 a0_14 a0_15 a2_0 a2_1).bind fun t1 => (if t0.snd ≠ 0 then some (0, 90) else (if t1.snd ≠ 0 then some (0, 90) else (if a0_2 = 0 then none else some (wrap64 ((wrap64 (t1.fst - t0.fst)).tdiv a0_2), 0))))))
set_option maxRecDepth 100000 in
theorem vespersref09_Apart.calls (a0_0 : Int) (a0_1 : Int) (a0_2 : Int) (a0_3 : Int) (a0_4 : Int) (a0_5 : Int) (a0_6 : Int) (a0_7 : Int) (a0_8 : Int) (a0_9 : Int) (a0_10 : Int) (a0_11 : Int) (a0_12 : Int) (a0_13 : Int) (a0_14 : Int) (a0_15 : Int) (a1_0 : Int) (a1_1 : Int) (a2_0 : Int) (a2_1 : Int) (r1 : Int) (r2 : Int) (w : World) (h : vespersref09_Apart.f a0_0 a0_1 a0_2 a0_3 a0_4 a0_5 a0_6 a0_7 a0_8 a0_9 a0_10 a0_11 a0_12 a0_13 a0_14 a0_15 a1_0 a1_1 a2_0 a2_1 = some (r1, r2)) :
    Calls Try.prog 16 #[.agg #[.int .i64 a0_0, .int .i64 a0_1, .int .i64 a0_2, .int .i64 a0_3, .int .i64 a0_4, .int .i64 a0_5, .int .i64 a0_6, .int .i64 a0_7, .int .i64 a0_8, .int .i64 a0_9, .int .i64 a0_10, .int .i64 a0_11, .int .i64 a0_12, .int .i64 a0_13, .int .i64 a0_14, .int .i64 a0_15], .agg #[.int .i64 a1_0, .int .i64 a1_1], .agg #[.int .i64 a2_0, .int .i64 a2_1]] w fun e w' => e = .returned (.tuple #[.int .i64 r1, .int .i64 r2]) ∧ Below w.heap.size w w' := by
  have ht : (walk Try.prog (ctOf t_vespersref09_Next) noL 100000 16 [.agg [.int .i64 (.s a0_0), .int .i64 (.s a0_1), .int .i64 (.s a0_2), .int .i64 (.s a0_3), .int .i64 (.s a0_4), .int .i64 (.s a0_5), .int .i64 (.s a0_6), .int .i64 (.s a0_7), .int .i64 (.s a0_8), .int .i64 (.s a0_9), .int .i64 (.s a0_10), .int .i64 (.s a0_11), .int .i64 (.s a0_12), .int .i64 (.s a0_13), .int .i64 (.s a0_14), .int .i64 (.s a0_15)], .agg [.int .i64 (.s a1_0), .int .i64 (.s a1_1)], .agg [.int .i64 (.s a2_0), .int .i64 (.s a2_1)]] [] 0).opt r_i64_i64.dec = vespersref09_Apart.f a0_0 a0_1 a0_2 a0_3 a0_4 a0_5 a0_6 a0_7 a0_8 a0_9 a0_10 a0_11 a0_12 a0_13 a0_14 a0_15 a1_0 a1_1 a2_0 a2_1 := by kernel_rfl
  exact calls_of named mixed t_vespersref09_Next_ok.ct noL_ok ht h (by kernel_rfl) (by kernel_rfl) w fun _ _ _ _ _ hd hx => r_i64_i64.ok hd hx
noncomputable def vespersref09_Apart.c : Entry := fun args _ => g_i64x16 args fun a0_0 a0_1 a0_2 a0_3 a0_4 a0_5 a0_6 a0_7 a0_8 a0_9 a0_10 a0_11 a0_12 a0_13 a0_14 a0_15 args => g_i64x2 args fun a1_0 a1_1 args => g_i64x2 args fun a2_0 a2_1 args => aN args (some { o := vespersref09_Apart.f a0_0 a0_1 a0_2 a0_3 a0_4 a0_5 a0_6 a0_7 a0_8 a0_9 a0_10 a0_11 a0_12 a0_13 a0_14 a0_15 a1_0 a1_1 a2_0 a2_1, enc := r_i64_i64.enc })
theorem vespersref09_Apart.ok : EntryOK Try.prog 16 vespersref09_Apart.c := by
  intro args H c h r hr ρ hn w xs hx hrel
  unfold vespersref09_Apart.c at h
  obtain ⟨a0_0, a0_1, a0_2, a0_3, a0_4, a0_5, a0_6, a0_7, a0_8, a0_9, a0_10, a0_11, a0_12, a0_13, a0_14, a0_15, xs, args, rfl, hx, h⟩ := g_i64x16_ok h hx
  obtain ⟨a1_0, a1_1, xs, args, rfl, hx, h⟩ := g_i64x2_ok h hx
  obtain ⟨a2_0, a2_1, xs, args, rfl, hx, h⟩ := g_i64x2_ok h hx
  obtain ⟨rfl, h⟩ := aN_ok h hx
  cases h
  obtain ⟨r1, r2⟩ := r
  refine (vespersref09_Apart.calls a0_0 a0_1 a0_2 a0_3 a0_4 a0_5 a0_6 a0_7 a0_8 a0_9 a0_10 a0_11 a0_12 a0_13 a0_14 a0_15 a1_0 a1_1 a2_0 a2_1 r1 r2 w hr).mono ?_
  rintro e w' ⟨rfl, hb⟩
  exact ⟨_, rfl, r_i64_i64.enc_rel ρ (r1, r2), hrel.below hb, Eff.of_below hb⟩
noncomputable def t_vespersref09_Apart : List (Nat × Entry) := (16, vespersref09_Apart.c) :: t_vespersref09_Next
theorem t_vespersref09_Apart_ok : TabOK Try.prog t_vespersref09_Apart := TabOK.cons vespersref09_Apart.ok t_vespersref09_Next_ok
def vespersref09_Full.f (a0_0 : Int) (a0_1 : Int) (a0_2 : Int) (a0_3 : Int) (a0_4 : Int) (a0_5 : Int) (a0_6 : Int) (a0_7 : Int) (a0_8 : Int) (a0_9 : Int) (a0_10 : Int) (a0_11 : Int) (a0_12 : Int) (a0_13 : Int) (a0_14 : Int) (a0_15 : Int) (a1_0 : Int) (a1_1 : Int) : Option Bool :=
  ((vespersref09_Has.f a0_0 a0_1 a0_2 a0_3 a0_4 a0_5 a0_6 a0_7 a0_8 a0_9 a0_10 a0_11 a0_12 a0_13 a0_14 a0_15 a1_0 a1_1).bind fun t0 => (if t0 = true then some (decide (a1_0.tmod 2 = 0) == decide (a1_1.tmod 2 = 0)) else some false))
set_option maxRecDepth 100000 in
theorem vespersref09_Full.calls (a0_0 : Int) (a0_1 : Int) (a0_2 : Int) (a0_3 : Int) (a0_4 : Int) (a0_5 : Int) (a0_6 : Int) (a0_7 : Int) (a0_8 : Int) (a0_9 : Int) (a0_10 : Int) (a0_11 : Int) (a0_12 : Int) (a0_13 : Int) (a0_14 : Int) (a0_15 : Int) (a1_0 : Int) (a1_1 : Int) (r : Bool) (w : World) (h : vespersref09_Full.f a0_0 a0_1 a0_2 a0_3 a0_4 a0_5 a0_6 a0_7 a0_8 a0_9 a0_10 a0_11 a0_12 a0_13 a0_14 a0_15 a1_0 a1_1 = some r) :
    Calls Try.prog 26 #[.agg #[.int .i64 a0_0, .int .i64 a0_1, .int .i64 a0_2, .int .i64 a0_3, .int .i64 a0_4, .int .i64 a0_5, .int .i64 a0_6, .int .i64 a0_7, .int .i64 a0_8, .int .i64 a0_9, .int .i64 a0_10, .int .i64 a0_11, .int .i64 a0_12, .int .i64 a0_13, .int .i64 a0_14, .int .i64 a0_15], .agg #[.int .i64 a1_0, .int .i64 a1_1]] w fun e w' => e = .returned (.bool r) ∧ Below w.heap.size w w' := by
  have ht : (walk Try.prog (ctOf t_vespersref09_Apart) noL 100000 26 [.agg [.int .i64 (.s a0_0), .int .i64 (.s a0_1), .int .i64 (.s a0_2), .int .i64 (.s a0_3), .int .i64 (.s a0_4), .int .i64 (.s a0_5), .int .i64 (.s a0_6), .int .i64 (.s a0_7), .int .i64 (.s a0_8), .int .i64 (.s a0_9), .int .i64 (.s a0_10), .int .i64 (.s a0_11), .int .i64 (.s a0_12), .int .i64 (.s a0_13), .int .i64 (.s a0_14), .int .i64 (.s a0_15)], .agg [.int .i64 (.s a1_0), .int .i64 (.s a1_1)]] [] 0).opt r_bool.dec = vespersref09_Full.f a0_0 a0_1 a0_2 a0_3 a0_4 a0_5 a0_6 a0_7 a0_8 a0_9 a0_10 a0_11 a0_12 a0_13 a0_14 a0_15 a1_0 a1_1 := by kernel_rfl
  exact calls_of named mixed t_vespersref09_Apart_ok.ct noL_ok ht h (by kernel_rfl) (by kernel_rfl) w fun _ _ _ _ _ hd hx => r_bool.ok hd hx
noncomputable def vespersref09_Full.c : Entry := fun args _ => g_i64x16 args fun a0_0 a0_1 a0_2 a0_3 a0_4 a0_5 a0_6 a0_7 a0_8 a0_9 a0_10 a0_11 a0_12 a0_13 a0_14 a0_15 args => g_i64x2 args fun a1_0 a1_1 args => aN args (some { o := vespersref09_Full.f a0_0 a0_1 a0_2 a0_3 a0_4 a0_5 a0_6 a0_7 a0_8 a0_9 a0_10 a0_11 a0_12 a0_13 a0_14 a0_15 a1_0 a1_1, enc := r_bool.enc })
theorem vespersref09_Full.ok : EntryOK Try.prog 26 vespersref09_Full.c := by
  intro args H c h r hr ρ hn w xs hx hrel
  unfold vespersref09_Full.c at h
  obtain ⟨a0_0, a0_1, a0_2, a0_3, a0_4, a0_5, a0_6, a0_7, a0_8, a0_9, a0_10, a0_11, a0_12, a0_13, a0_14, a0_15, xs, args, rfl, hx, h⟩ := g_i64x16_ok h hx
  obtain ⟨a1_0, a1_1, xs, args, rfl, hx, h⟩ := g_i64x2_ok h hx
  obtain ⟨rfl, h⟩ := aN_ok h hx
  cases h
  refine (vespersref09_Full.calls a0_0 a0_1 a0_2 a0_3 a0_4 a0_5 a0_6 a0_7 a0_8 a0_9 a0_10 a0_11 a0_12 a0_13 a0_14 a0_15 a1_0 a1_1 r w hr).mono ?_
  rintro e w' ⟨rfl, hb⟩
  exact ⟨_, rfl, r_bool.enc_rel ρ r, hrel.below hb, Eff.of_below hb⟩
noncomputable def t_vespersref09_Full : List (Nat × Entry) := (26, vespersref09_Full.c) :: t_vespersref09_Apart
theorem t_vespersref09_Full_ok : TabOK Try.prog t_vespersref09_Full := TabOK.cons vespersref09_Full.ok t_vespersref09_Apart_ok
def vespersref09_Middle.f (a0_0 : Int) (a0_1 : Int) (a0_2 : Int) (a0_3 : Int) (a0_4 : Int) (a0_5 : Int) (a0_6 : Int) (a0_7 : Int) (a0_8 : Int) (a0_9 : Int) (a0_10 : Int) (a0_11 : Int) (a0_12 : Int) (a0_13 : Int) (a0_14 : Int) (a0_15 : Int) : Option Int :=
  ((vespersref07_Check.f a0_0 a0_1 a0_2 a0_3 a0_4 a0_5 a0_6 a0_7 a0_8 a0_9 a0_10 a0_11 a0_12 a0_13 a0_14 a0_15).bind fun t0 => (if t0 ≠ 0 then some 0 else some (wrap64 (a0_6 + wrap64 ((wrap64 (a0_7 - a0_6)).tdiv 2)))))
set_option maxRecDepth 100000 in
theorem vespersref09_Middle.calls (a0_0 : Int) (a0_1 : Int) (a0_2 : Int) (a0_3 : Int) (a0_4 : Int) (a0_5 : Int) (a0_6 : Int) (a0_7 : Int) (a0_8 : Int) (a0_9 : Int) (a0_10 : Int) (a0_11 : Int) (a0_12 : Int) (a0_13 : Int) (a0_14 : Int) (a0_15 : Int) (r : Int) (w : World) (h : vespersref09_Middle.f a0_0 a0_1 a0_2 a0_3 a0_4 a0_5 a0_6 a0_7 a0_8 a0_9 a0_10 a0_11 a0_12 a0_13 a0_14 a0_15 = some r) :
    Calls Try.prog 28 #[.agg #[.int .i64 a0_0, .int .i64 a0_1, .int .i64 a0_2, .int .i64 a0_3, .int .i64 a0_4, .int .i64 a0_5, .int .i64 a0_6, .int .i64 a0_7, .int .i64 a0_8, .int .i64 a0_9, .int .i64 a0_10, .int .i64 a0_11, .int .i64 a0_12, .int .i64 a0_13, .int .i64 a0_14, .int .i64 a0_15]] w fun e w' => e = .returned (.int .i64 r) ∧ Below w.heap.size w w' := by
  have ht : (walk Try.prog (ctOf t_vespersref09_Full) noL 100000 28 [.agg [.int .i64 (.s a0_0), .int .i64 (.s a0_1), .int .i64 (.s a0_2), .int .i64 (.s a0_3), .int .i64 (.s a0_4), .int .i64 (.s a0_5), .int .i64 (.s a0_6), .int .i64 (.s a0_7), .int .i64 (.s a0_8), .int .i64 (.s a0_9), .int .i64 (.s a0_10), .int .i64 (.s a0_11), .int .i64 (.s a0_12), .int .i64 (.s a0_13), .int .i64 (.s a0_14), .int .i64 (.s a0_15)]] [] 0).opt r_i64.dec = vespersref09_Middle.f a0_0 a0_1 a0_2 a0_3 a0_4 a0_5 a0_6 a0_7 a0_8 a0_9 a0_10 a0_11 a0_12 a0_13 a0_14 a0_15 := by kernel_rfl
  exact calls_of named mixed t_vespersref09_Full_ok.ct noL_ok ht h (by kernel_rfl) (by kernel_rfl) w fun _ _ _ _ _ hd hx => r_i64.ok hd hx
noncomputable def vespersref09_Middle.c : Entry := fun args _ => g_i64x16 args fun a0_0 a0_1 a0_2 a0_3 a0_4 a0_5 a0_6 a0_7 a0_8 a0_9 a0_10 a0_11 a0_12 a0_13 a0_14 a0_15 args => aN args (some { o := vespersref09_Middle.f a0_0 a0_1 a0_2 a0_3 a0_4 a0_5 a0_6 a0_7 a0_8 a0_9 a0_10 a0_11 a0_12 a0_13 a0_14 a0_15, enc := r_i64.enc })
theorem vespersref09_Middle.ok : EntryOK Try.prog 28 vespersref09_Middle.c := by
  intro args H c h r hr ρ hn w xs hx hrel
  unfold vespersref09_Middle.c at h
  obtain ⟨a0_0, a0_1, a0_2, a0_3, a0_4, a0_5, a0_6, a0_7, a0_8, a0_9, a0_10, a0_11, a0_12, a0_13, a0_14, a0_15, xs, args, rfl, hx, h⟩ := g_i64x16_ok h hx
  obtain ⟨rfl, h⟩ := aN_ok h hx
  cases h
  refine (vespersref09_Middle.calls a0_0 a0_1 a0_2 a0_3 a0_4 a0_5 a0_6 a0_7 a0_8 a0_9 a0_10 a0_11 a0_12 a0_13 a0_14 a0_15 r w hr).mono ?_
  rintro e w' ⟨rfl, hb⟩
  exact ⟨_, rfl, r_i64.enc_rel ρ r, hrel.below hb, Eff.of_below hb⟩
noncomputable def t_vespersref09_Middle : List (Nat × Entry) := (28, vespersref09_Middle.c) :: t_vespersref09_Full
theorem t_vespersref09_Middle_ok : TabOK Try.prog t_vespersref09_Middle := TabOK.cons vespersref09_Middle.ok t_vespersref09_Full_ok
def vespersref09_Sends.f (a0_0 : Int) (a0_1 : Int) (a0_2 : Int) (a0_3 : Int) (a0_4 : Int) (a0_5 : Int) (a0_6 : Int) (a0_7 : Int) (a0_8 : Int) (a0_9 : Int) (a0_10 : Int) (a0_11 : Int) (a0_12 : Int) (a0_13 : Int) (a0_14 : Int) (a0_15 : Int) (a1_0 : Int) (a1_1 : Int) : Option (Int × Int) :=
  ((vespersref09_Begin.f a0_0 a0_1 a0_2 a0_3 a0_4 a0_5 a0_6 a0_7 a0_8 a0_9 a0_10 a0_11 a0_12 a0_13 a0_14 a0_15 a1_0 a1_1).bind fun t0 => (if t0.snd ≠ 0 then some (0, t0.snd) else some (wrap64 (t0.fst + a0_3), 0)))
set_option maxRecDepth 100000 in
theorem vespersref09_Sends.calls (a0_0 : Int) (a0_1 : Int) (a0_2 : Int) (a0_3 : Int) (a0_4 : Int) (a0_5 : Int) (a0_6 : Int) (a0_7 : Int) (a0_8 : Int) (a0_9 : Int) (a0_10 : Int) (a0_11 : Int) (a0_12 : Int) (a0_13 : Int) (a0_14 : Int) (a0_15 : Int) (a1_0 : Int) (a1_1 : Int) (r1 : Int) (r2 : Int) (w : World) (h : vespersref09_Sends.f a0_0 a0_1 a0_2 a0_3 a0_4 a0_5 a0_6 a0_7 a0_8 a0_9 a0_10 a0_11 a0_12 a0_13 a0_14 a0_15 a1_0 a1_1 = some (r1, r2)) :
    Calls Try.prog 18 #[.agg #[.int .i64 a0_0, .int .i64 a0_1, .int .i64 a0_2, .int .i64 a0_3, .int .i64 a0_4, .int .i64 a0_5, .int .i64 a0_6, .int .i64 a0_7, .int .i64 a0_8, .int .i64 a0_9, .int .i64 a0_10, .int .i64 a0_11, .int .i64 a0_12, .int .i64 a0_13, .int .i64 a0_14, .int .i64 a0_15], .agg #[.int .i64 a1_0, .int .i64 a1_1]] w fun e w' => e = .returned (.tuple #[.int .i64 r1, .int .i64 r2]) ∧ Below w.heap.size w w' := by
  have ht : (walk Try.prog (ctOf t_vespersref09_Middle) noL 100000 18 [.agg [.int .i64 (.s a0_0), .int .i64 (.s a0_1), .int .i64 (.s a0_2), .int .i64 (.s a0_3), .int .i64 (.s a0_4), .int .i64 (.s a0_5), .int .i64 (.s a0_6), .int .i64 (.s a0_7), .int .i64 (.s a0_8), .int .i64 (.s a0_9), .int .i64 (.s a0_10), .int .i64 (.s a0_11), .int .i64 (.s a0_12), .int .i64 (.s a0_13), .int .i64 (.s a0_14), .int .i64 (.s a0_15)], .agg [.int .i64 (.s a1_0), .int .i64 (.s a1_1)]] [] 0).opt r_i64_i64.dec = vespersref09_Sends.f a0_0 a0_1 a0_2 a0_3 a0_4 a0_5 a0_6 a0_7 a0_8 a0_9 a0_10 a0_11 a0_12 a0_13 a0_14 a0_15 a1_0 a1_1 := by kernel_rfl
  exact calls_of named mixed t_vespersref09_Middle_ok.ct noL_ok ht h (by kernel_rfl) (by kernel_rfl) w fun _ _ _ _ _ hd hx => r_i64_i64.ok hd hx
noncomputable def vespersref09_Sends.c : Entry := fun args _ => g_i64x16 args fun a0_0 a0_1 a0_2 a0_3 a0_4 a0_5 a0_6 a0_7 a0_8 a0_9 a0_10 a0_11 a0_12 a0_13 a0_14 a0_15 args => g_i64x2 args fun a1_0 a1_1 args => aN args (some { o := vespersref09_Sends.f a0_0 a0_1 a0_2 a0_3 a0_4 a0_5 a0_6 a0_7 a0_8 a0_9 a0_10 a0_11 a0_12 a0_13 a0_14 a0_15 a1_0 a1_1, enc := r_i64_i64.enc })
theorem vespersref09_Sends.ok : EntryOK Try.prog 18 vespersref09_Sends.c := by
  intro args H c h r hr ρ hn w xs hx hrel
  unfold vespersref09_Sends.c at h
  obtain ⟨a0_0, a0_1, a0_2, a0_3, a0_4, a0_5, a0_6, a0_7, a0_8, a0_9, a0_10, a0_11, a0_12, a0_13, a0_14, a0_15, xs, args, rfl, hx, h⟩ := g_i64x16_ok h hx
  obtain ⟨a1_0, a1_1, xs, args, rfl, hx, h⟩ := g_i64x2_ok h hx
  obtain ⟨rfl, h⟩ := aN_ok h hx
  cases h
  obtain ⟨r1, r2⟩ := r
  refine (vespersref09_Sends.calls a0_0 a0_1 a0_2 a0_3 a0_4 a0_5 a0_6 a0_7 a0_8 a0_9 a0_10 a0_11 a0_12 a0_13 a0_14 a0_15 a1_0 a1_1 r1 r2 w hr).mono ?_
  rintro e w' ⟨rfl, hb⟩
  exact ⟨_, rfl, r_i64_i64.enc_rel ρ (r1, r2), hrel.below hb, Eff.of_below hb⟩
noncomputable def t_vespersref09_Sends : List (Nat × Entry) := (18, vespersref09_Sends.c) :: t_vespersref09_Middle
theorem t_vespersref09_Sends_ok : TabOK Try.prog t_vespersref09_Sends := TabOK.cons vespersref09_Sends.ok t_vespersref09_Middle_ok
def vespersref09_Expected.f (a0_0 : Int) (a0_1 : Int) (a0_2 : Int) (a0_3 : Int) (a0_4 : Int) (a0_5 : Int) (a0_6 : Int) (a0_7 : Int) (a0_8 : Int) (a0_9 : Int) (a0_10 : Int) (a0_11 : Int) (a0_12 : Int) (a0_13 : Int) (a0_14 : Int) (a0_15 : Int) (a1_0 : Int) (a1_1 : Int) : Option (Int × Int × Int × Int) :=
  ((vespersref09_Sends.f a0_0 a0_1 a0_2 a0_3 a0_4 a0_5 a0_6 a0_7 a0_8 a0_9 a0_10 a0_11 a0_12 a0_13 a0_14 a0_15 a1_0 a1_1).bind fun t0 => (if t0.snd ≠ 0 then some (0, 0, 0, t0.snd) else ((vespersref09_Middle.f a0_0 a0_1 a0_2 a0_3 a0_4 a0_5 a0_6 a0_7 a0_8 a0_9 a0_10 a0_11 a0_12 a0_13 a0_14 a0_15).bind fun t1 => some (wrap64 (t0.fst + t1), wrap64 (wrap64 (t0.fst + t1) - a0_4), wrap64 (wrap64 (t0.fst + t1) + a0_4), 0))))
set_option maxRecDepth 100000 in
theorem vespersref09_Expected.calls (a0_0 : Int) (a0_1 : Int) (a0_2 : Int) (a0_3 : Int) (a0_4 : Int) (a0_5 : Int) (a0_6 : Int) (a0_7 : Int) (a0_8 : Int) (a0_9 : Int) (a0_10 : Int) (a0_11 : Int) (a0_12 : Int) (a0_13 : Int) (a0_14 : Int) (a0_15 : Int) (a1_0 : Int) (a1_1 : Int) (r1 : Int) (r2 : Int) (r3 : Int) (r4 : Int) (w : World) (h : vespersref09_Expected.f a0_0 a0_1 a0_2 a0_3 a0_4 a0_5 a0_6 a0_7 a0_8 a0_9 a0_10 a0_11 a0_12 a0_13 a0_14 a0_15 a1_0 a1_1 = some (r1, r2, r3, r4)) :
    Calls Try.prog 20 #[.agg #[.int .i64 a0_0, .int .i64 a0_1, .int .i64 a0_2, .int .i64 a0_3, .int .i64 a0_4, .int .i64 a0_5, .int .i64 a0_6, .int .i64 a0_7, .int .i64 a0_8, .int .i64 a0_9, .int .i64 a0_10, .int .i64 a0_11, .int .i64 a0_12, .int .i64 a0_13, .int .i64 a0_14, .int .i64 a0_15], .agg #[.int .i64 a1_0, .int .i64 a1_1]] w fun e w' => e = .returned (.tuple #[.int .i64 r1, .int .i64 r2, .int .i64 r3, .int .i64 r4]) ∧ Below w.heap.size w w' := by
  have ht : (walk Try.prog (ctOf t_vespersref09_Sends) noL 100000 20 [.agg [.int .i64 (.s a0_0), .int .i64 (.s a0_1), .int .i64 (.s a0_2), .int .i64 (.s a0_3), .int .i64 (.s a0_4), .int .i64 (.s a0_5), .int .i64 (.s a0_6), .int .i64 (.s a0_7), .int .i64 (.s a0_8), .int .i64 (.s a0_9), .int .i64 (.s a0_10), .int .i64 (.s a0_11), .int .i64 (.s a0_12), .int .i64 (.s a0_13), .int .i64 (.s a0_14), .int .i64 (.s a0_15)], .agg [.int .i64 (.s a1_0), .int .i64 (.s a1_1)]] [] 0).opt r_i64_i64_i64_i64.dec = vespersref09_Expected.f a0_0 a0_1 a0_2 a0_3 a0_4 a0_5 a0_6 a0_7 a0_8 a0_9 a0_10 a0_11 a0_12 a0_13 a0_14 a0_15 a1_0 a1_1 := by kernel_rfl
  exact calls_of named mixed t_vespersref09_Sends_ok.ct noL_ok ht h (by kernel_rfl) (by kernel_rfl) w fun _ _ _ _ _ hd hx => r_i64_i64_i64_i64.ok hd hx
noncomputable def vespersref09_Expected.c : Entry := fun args _ => g_i64x16 args fun a0_0 a0_1 a0_2 a0_3 a0_4 a0_5 a0_6 a0_7 a0_8 a0_9 a0_10 a0_11 a0_12 a0_13 a0_14 a0_15 args => g_i64x2 args fun a1_0 a1_1 args => aN args (some { o := vespersref09_Expected.f a0_0 a0_1 a0_2 a0_3 a0_4 a0_5 a0_6 a0_7 a0_8 a0_9 a0_10 a0_11 a0_12 a0_13 a0_14 a0_15 a1_0 a1_1, enc := r_i64_i64_i64_i64.enc })
theorem vespersref09_Expected.ok : EntryOK Try.prog 20 vespersref09_Expected.c := by
  intro args H c h r hr ρ hn w xs hx hrel
  unfold vespersref09_Expected.c at h
  obtain ⟨a0_0, a0_1, a0_2, a0_3, a0_4, a0_5, a0_6, a0_7, a0_8, a0_9, a0_10, a0_11, a0_12, a0_13, a0_14, a0_15, xs, args, rfl, hx, h⟩ := g_i64x16_ok h hx
  obtain ⟨a1_0, a1_1, xs, args, rfl, hx, h⟩ := g_i64x2_ok h hx
  obtain ⟨rfl, h⟩ := aN_ok h hx
  cases h
  obtain ⟨r1, r2, r3, r4⟩ := r
  refine (vespersref09_Expected.calls a0_0 a0_1 a0_2 a0_3 a0_4 a0_5 a0_6 a0_7 a0_8 a0_9 a0_10 a0_11 a0_12 a0_13 a0_14 a0_15 a1_0 a1_1 r1 r2 r3 r4 w hr).mono ?_
  rintro e w' ⟨rfl, hb⟩
  exact ⟨_, rfl, r_i64_i64_i64_i64.enc_rel ρ (r1, r2, r3, r4), hrel.below hb, Eff.of_below hb⟩
noncomputable def t_vespersref09_Expected : List (Nat × Entry) := (20, vespersref09_Expected.c) :: t_vespersref09_Sends
theorem t_vespersref09_Expected_ok : TabOK Try.prog t_vespersref09_Expected := TabOK.cons vespersref09_Expected.ok t_vespersref09_Sends_ok
def vespersref09_Listen.f (a0_0 : Int) (a0_1 : Int) (a0_2 : Int) (a0_3 : Int) (a0_4 : Int) (a0_5 : Int) (a0_6 : Int) (a0_7 : Int) (a0_8 : Int) (a0_9 : Int) (a0_10 : Int) (a0_11 : Int) (a0_12 : Int) (a0_13 : Int) (a0_14 : Int) (a0_15 : Int) (a1 : Int) : Option (Int × Int) :=
  ((vespersref09_Begin.f a0_0 a0_1 a0_2 a0_3 a0_4 a0_5 a0_6 a0_7 a0_8 a0_9 a0_10 a0_11 a0_12 a0_13 a0_14 a0_15 3 a1).bind fun t0 => some (t0.fst, t0.snd))
set_option maxRecDepth 100000 in
theorem vespersref09_Listen.calls (a0_0 : Int) (a0_1 : Int) (a0_2 : Int) (a0_3 : Int) (a0_4 : Int) (a0_5 : Int) (a0_6 : Int) (a0_7 : Int) (a0_8 : Int) (a0_9 : Int) (a0_10 : Int) (a0_11 : Int) (a0_12 : Int) (a0_13 : Int) (a0_14 : Int) (a0_15 : Int) (a1 : Int) (r1 : Int) (r2 : Int) (w : World) (h : vespersref09_Listen.f a0_0 a0_1 a0_2 a0_3 a0_4 a0_5 a0_6 a0_7 a0_8 a0_9 a0_10 a0_11 a0_12 a0_13 a0_14 a0_15 a1 = some (r1, r2)) :
    Calls Try.prog 22 #[.agg #[.int .i64 a0_0, .int .i64 a0_1, .int .i64 a0_2, .int .i64 a0_3, .int .i64 a0_4, .int .i64 a0_5, .int .i64 a0_6, .int .i64 a0_7, .int .i64 a0_8, .int .i64 a0_9, .int .i64 a0_10, .int .i64 a0_11, .int .i64 a0_12, .int .i64 a0_13, .int .i64 a0_14, .int .i64 a0_15], .int .i64 a1] w fun e w' => e = .returned (.tuple #[.int .i64 r1, .int .i64 r2]) ∧ Below w.heap.size w w' := by
  have ht : (walk Try.prog (ctOf t_vespersref09_Expected) noL 100000 22 [.agg [.int .i64 (.s a0_0), .int .i64 (.s a0_1), .int .i64 (.s a0_2), .int .i64 (.s a0_3), .int .i64 (.s a0_4), .int .i64 (.s a0_5), .int .i64 (.s a0_6), .int .i64 (.s a0_7), .int .i64 (.s a0_8), .int .i64 (.s a0_9), .int .i64 (.s a0_10), .int .i64 (.s a0_11), .int .i64 (.s a0_12), .int .i64 (.s a0_13), .int .i64 (.s a0_14), .int .i64 (.s a0_15)], .int .i64 (.s a1)] [] 0).opt r_i64_i64.dec = vespersref09_Listen.f a0_0 a0_1 a0_2 a0_3 a0_4 a0_5 a0_6 a0_7 a0_8 a0_9 a0_10 a0_11 a0_12 a0_13 a0_14 a0_15 a1 := by kernel_rfl
  exact calls_of named mixed t_vespersref09_Expected_ok.ct noL_ok ht h (by kernel_rfl) (by kernel_rfl) w fun _ _ _ _ _ hd hx => r_i64_i64.ok hd hx
noncomputable def vespersref09_Listen.c : Entry := fun args _ => g_i64x16 args fun a0_0 a0_1 a0_2 a0_3 a0_4 a0_5 a0_6 a0_7 a0_8 a0_9 a0_10 a0_11 a0_12 a0_13 a0_14 a0_15 args => aI .i64 args fun a1 args => aN args (some { o := vespersref09_Listen.f a0_0 a0_1 a0_2 a0_3 a0_4 a0_5 a0_6 a0_7 a0_8 a0_9 a0_10 a0_11 a0_12 a0_13 a0_14 a0_15 a1, enc := r_i64_i64.enc })
theorem vespersref09_Listen.ok : EntryOK Try.prog 22 vespersref09_Listen.c := by
  intro args H c h r hr ρ hn w xs hx hrel
  unfold vespersref09_Listen.c at h
  obtain ⟨a0_0, a0_1, a0_2, a0_3, a0_4, a0_5, a0_6, a0_7, a0_8, a0_9, a0_10, a0_11, a0_12, a0_13, a0_14, a0_15, xs, args, rfl, hx, h⟩ := g_i64x16_ok h hx
  obtain ⟨a1, xs, args, rfl, hx, h⟩ := aI_ok h hx
  obtain ⟨rfl, h⟩ := aN_ok h hx
  cases h
  obtain ⟨r1, r2⟩ := r
  refine (vespersref09_Listen.calls a0_0 a0_1 a0_2 a0_3 a0_4 a0_5 a0_6 a0_7 a0_8 a0_9 a0_10 a0_11 a0_12 a0_13 a0_14 a0_15 a1 r1 r2 w hr).mono ?_
  rintro e w' ⟨rfl, hb⟩
  exact ⟨_, rfl, r_i64_i64.enc_rel ρ (r1, r2), hrel.below hb, Eff.of_below hb⟩
noncomputable def t_vespersref09_Listen : List (Nat × Entry) := (22, vespersref09_Listen.c) :: t_vespersref09_Expected
theorem t_vespersref09_Listen_ok : TabOK Try.prog t_vespersref09_Listen := TabOK.cons vespersref09_Listen.ok t_vespersref09_Expected_ok
def vespersref09_Wait.f (a0_0 : Int) (a0_1 : Int) (a0_2 : Int) (a0_3 : Int) (a0_4 : Int) (a0_5 : Int) (a0_6 : Int) (a0_7 : Int) (a0_8 : Int) (a0_9 : Int) (a0_10 : Int) (a0_11 : Int) (a0_12 : Int) (a0_13 : Int) (a0_14 : Int) (a0_15 : Int) (a1 : Int) : Option (Int × Int) :=
  ((vespersref09_Begin.f a0_0 a0_1 a0_2 a0_3 a0_4 a0_5 a0_6 a0_7 a0_8 a0_9 a0_10 a0_11 a0_12 a0_13 a0_14 a0_15 1 a1).bind fun t0 => some (t0.fst, t0.snd))
set_option maxRecDepth 100000 in
theorem vespersref09_Wait.calls (a0_0 : Int) (a0_1 : Int) (a0_2 : Int) (a0_3 : Int) (a0_4 : Int) (a0_5 : Int) (a0_6 : Int) (a0_7 : Int) (a0_8 : Int) (a0_9 : Int) (a0_10 : Int) (a0_11 : Int) (a0_12 : Int) (a0_13 : Int) (a0_14 : Int) (a0_15 : Int) (a1 : Int) (r1 : Int) (r2 : Int) (w : World) (h : vespersref09_Wait.f a0_0 a0_1 a0_2 a0_3 a0_4 a0_5 a0_6 a0_7 a0_8 a0_9 a0_10 a0_11 a0_12 a0_13 a0_14 a0_15 a1 = some (r1, r2)) :
    Calls Try.prog 24 #[.agg #[.int .i64 a0_0, .int .i64 a0_1, .int .i64 a0_2, .int .i64 a0_3, .int .i64 a0_4, .int .i64 a0_5, .int .i64 a0_6, .int .i64 a0_7, .int .i64 a0_8, .int .i64 a0_9, .int .i64 a0_10, .int .i64 a0_11, .int .i64 a0_12, .int .i64 a0_13, .int .i64 a0_14, .int .i64 a0_15], .int .i64 a1] w fun e w' => e = .returned (.tuple #[.int .i64 r1, .int .i64 r2]) ∧ Below w.heap.size w w' := by
  have ht : (walk Try.prog (ctOf t_vespersref09_Listen) noL 100000 24 [.agg [.int .i64 (.s a0_0), .int .i64 (.s a0_1), .int .i64 (.s a0_2), .int .i64 (.s a0_3), .int .i64 (.s a0_4), .int .i64 (.s a0_5), .int .i64 (.s a0_6), .int .i64 (.s a0_7), .int .i64 (.s a0_8), .int .i64 (.s a0_9), .int .i64 (.s a0_10), .int .i64 (.s a0_11), .int .i64 (.s a0_12), .int .i64 (.s a0_13), .int .i64 (.s a0_14), .int .i64 (.s a0_15)], .int .i64 (.s a1)] [] 0).opt r_i64_i64.dec = vespersref09_Wait.f a0_0 a0_1 a0_2 a0_3 a0_4 a0_5 a0_6 a0_7 a0_8 a0_9 a0_10 a0_11 a0_12 a0_13 a0_14 a0_15 a1 := by kernel_rfl
  exact calls_of named mixed t_vespersref09_Listen_ok.ct noL_ok ht h (by kernel_rfl) (by kernel_rfl) w fun _ _ _ _ _ hd hx => r_i64_i64.ok hd hx
noncomputable def vespersref09_Wait.c : Entry := fun args _ => g_i64x16 args fun a0_0 a0_1 a0_2 a0_3 a0_4 a0_5 a0_6 a0_7 a0_8 a0_9 a0_10 a0_11 a0_12 a0_13 a0_14 a0_15 args => aI .i64 args fun a1 args => aN args (some { o := vespersref09_Wait.f a0_0 a0_1 a0_2 a0_3 a0_4 a0_5 a0_6 a0_7 a0_8 a0_9 a0_10 a0_11 a0_12 a0_13 a0_14 a0_15 a1, enc := r_i64_i64.enc })
theorem vespersref09_Wait.ok : EntryOK Try.prog 24 vespersref09_Wait.c := by
  intro args H c h r hr ρ hn w xs hx hrel
  unfold vespersref09_Wait.c at h
  obtain ⟨a0_0, a0_1, a0_2, a0_3, a0_4, a0_5, a0_6, a0_7, a0_8, a0_9, a0_10, a0_11, a0_12, a0_13, a0_14, a0_15, xs, args, rfl, hx, h⟩ := g_i64x16_ok h hx
  obtain ⟨a1, xs, args, rfl, hx, h⟩ := aI_ok h hx
  obtain ⟨rfl, h⟩ := aN_ok h hx
  cases h
  obtain ⟨r1, r2⟩ := r
  refine (vespersref09_Wait.calls a0_0 a0_1 a0_2 a0_3 a0_4 a0_5 a0_6 a0_7 a0_8 a0_9 a0_10 a0_11 a0_12 a0_13 a0_14 a0_15 a1 r1 r2 w hr).mono ?_
  rintro e w' ⟨rfl, hb⟩
  exact ⟨_, rfl, r_i64_i64.enc_rel ρ (r1, r2), hrel.below hb, Eff.of_below hb⟩
noncomputable def t_vespersref09_Wait : List (Nat × Entry) := (24, vespersref09_Wait.c) :: t_vespersref09_Listen
theorem t_vespersref09_Wait_ok : TabOK Try.prog t_vespersref09_Wait := TabOK.cons vespersref09_Wait.ok t_vespersref09_Listen_ok
abbrev vespersref09_Of.X0 := Int × Int × Int × Int × Int × Int × Int × Int × Int × Int × Int × Int × Int × Int × Int × Int × Int × Int × Int
def vespersref09_Of.decX0 : List AV → Option vespersref09_Of.X0
  | [y0, y1, y2, y3, y4, y5, y6, y7, y8, y9, y10, y11, y12, y13, y14, y15, y16, y17, y18] => (dI .i64 y0).bind fun n0 => (dI .i64 y1).bind fun n1 => (dI .i64 y2).bind fun n2 => (dI .i64 y3).bind fun n3 => (dI .i64 y4).bind fun n4 => (dI .i64 y5).bind fun n5 => (dI .i64 y6).bind fun n6 => (dI .i64 y7).bind fun n7 => (dI .i64 y8).bind fun n8 => (dI .i64 y9).bind fun n9 => (dI .i64 y10).bind fun n10 => (dI .i64 y11).bind fun n11 => (dI .i64 y12).bind fun n12 => (dI .i64 y13).bind fun n13 => (dI .i64 y14).bind fun n14 => (dI .i64 y15).bind fun n15 => (dI .i64 y16).bind fun n16 => (dI .i64 y17).bind fun n17 => (dI .i64 y18).bind fun n18 => some (n0, n1, n2, n3, n4, n5, n6, n7, n8, n9, n10, n11, n12, n13, n14, n15, n16, n17, n18)
  | _ => none
def vespersref09_Of.encX0 (x : vespersref09_Of.X0) : List AV := [.int .i64 (.s x.1), .int .i64 (.s x.2.1), .int .i64 (.s x.2.2.1), .int .i64 (.s x.2.2.2.1), .int .i64 (.s x.2.2.2.2.1), .int .i64 (.s x.2.2.2.2.2.1), .int .i64 (.s x.2.2.2.2.2.2.1), .int .i64 (.s x.2.2.2.2.2.2.2.1), .int .i64 (.s x.2.2.2.2.2.2.2.2.1), .int .i64 (.s x.2.2.2.2.2.2.2.2.2.1), .int .i64 (.s x.2.2.2.2.2.2.2.2.2.2.1), .int .i64 (.s x.2.2.2.2.2.2.2.2.2.2.2.1), .int .i64 (.s x.2.2.2.2.2.2.2.2.2.2.2.2.1), .int .i64 (.s x.2.2.2.2.2.2.2.2.2.2.2.2.2.1), .int .i64 (.s x.2.2.2.2.2.2.2.2.2.2.2.2.2.2.1), .int .i64 (.s x.2.2.2.2.2.2.2.2.2.2.2.2.2.2.2.1), .int .i64 (.s x.2.2.2.2.2.2.2.2.2.2.2.2.2.2.2.2.1), .int .i64 (.s x.2.2.2.2.2.2.2.2.2.2.2.2.2.2.2.2.2.1), .int .i64 (.s x.2.2.2.2.2.2.2.2.2.2.2.2.2.2.2.2.2.2)]
theorem vespersref09_Of.decX0_ok (ys : List AV) (x : vespersref09_Of.X0) (h : vespersref09_Of.decX0 ys = some x) : Ptw ys (vespersref09_Of.encX0 x) := by
  unfold vespersref09_Of.decX0 at h
  split at h
  · obtain ⟨n0, e0, h⟩ := Option.bind_eq_some_iff.1 h
    obtain ⟨n1, e1, h⟩ := Option.bind_eq_some_iff.1 h
    obtain ⟨n2, e2, h⟩ := Option.bind_eq_some_iff.1 h
    obtain ⟨n3, e3, h⟩ := Option.bind_eq_some_iff.1 h
    obtain ⟨n4, e4, h⟩ := Option.bind_eq_some_iff.1 h
    obtain ⟨n5, e5, h⟩ := Option.bind_eq_some_iff.1 h
    obtain ⟨n6, e6, h⟩ := Option.bind_eq_some_iff.1 h
    obtain ⟨n7, e7, h⟩ := Option.bind_eq_some_iff.1 h
    obtain ⟨n8, e8, h⟩ := Option.bind_eq_some_iff.1 h
    obtain ⟨n9, e9, h⟩ := Option.bind_eq_some_iff.1 h
    obtain ⟨n10, e10, h⟩ := Option.bind_eq_some_iff.1 h
    obtain ⟨n11, e11, h⟩ := Option.bind_eq_some_iff.1 h
    obtain ⟨n12, e12, h⟩ := Option.bind_eq_some_iff.1 h
    obtain ⟨n13, e13, h⟩ := Option.bind_eq_some_iff.1 h
    obtain ⟨n14, e14, h⟩ := Option.bind_eq_some_iff.1 h
    obtain ⟨n15, e15, h⟩ := Option.bind_eq_some_iff.1 h
    obtain ⟨n16, e16, h⟩ := Option.bind_eq_some_iff.1 h
    obtain ⟨n17, e17, h⟩ := Option.bind_eq_some_iff.1 h
    obtain ⟨n18, e18, h⟩ := Option.bind_eq_some_iff.1 h
    cases h
    exact ⟨fun ρ x hx => dI_ok e0 hx, ⟨fun ρ x hx => dI_ok e1 hx, ⟨fun ρ x hx => dI_ok e2 hx, ⟨fun ρ x hx => dI_ok e3 hx, ⟨fun ρ x hx => dI_ok e4 hx, ⟨fun ρ x hx => dI_ok e5 hx, ⟨fun ρ x hx => dI_ok e6 hx, ⟨fun ρ x hx => dI_ok e7 hx, ⟨fun ρ x hx => dI_ok e8 hx, ⟨fun ρ x hx => dI_ok e9 hx, ⟨fun ρ x hx => dI_ok e10 hx, ⟨fun ρ x hx => dI_ok e11 hx, ⟨fun ρ x hx => dI_ok e12 hx, ⟨fun ρ x hx => dI_ok e13 hx, ⟨fun ρ x hx => dI_ok e14 hx, ⟨fun ρ x hx => dI_ok e15 hx, ⟨fun ρ x hx => dI_ok e16 hx, ⟨fun ρ x hx => dI_ok e17 hx, ⟨fun ρ x hx => dI_ok e18 hx, trivial⟩⟩⟩⟩⟩⟩⟩⟩⟩⟩⟩⟩⟩⟩⟩⟩⟩⟩⟩
  · cases h
abbrev vespersref09_Of.Y0 := Unit
def vespersref09_Of.decY0 : List AV → Option vespersref09_Of.Y0
  | [] => some ()
  | _ => none
def vespersref09_Of.encY0 (x : vespersref09_Of.Y0) : List AV := []
theorem vespersref09_Of.decY0_ok (ys : List AV) (x : vespersref09_Of.Y0) (h : vespersref09_Of.decY0 ys = some x) : Ptw ys (vespersref09_Of.encY0 x) := by
  unfold vespersref09_Of.decY0 at h
  split at h
  · cases h
    exact trivial
  · cases h
noncomputable def vespersref09_Of.tm0 : Templ := { fn := 12, sz := szOf Try.prog 12, hn := 3, slots := [(2, .ptr 0 0), (4, .ptr 1 0), (5, .int .i64 0), (7, .ptr 2 0), (8, .hole)], H := [(0, 23, [.hole, .hole, .hole, .hole, .hole, .hole, .hole, .hole, .hole, .hole, .hole, .hole, .hole, .hole, .hole, .hole]), (1, 25, [.int .i64 0, .int .i64 0]), (2, 25, [.hole, .hole])] }
noncomputable def vespersref09_Of.tr0 : Templ := { fn := 12, sz := szOf Try.prog 12, hn := 3, slots := [], H := [] }
noncomputable def vespersref09_Of.b0 : Code := loopOf Try.prog 12 0
noncomputable def vespersref09_Of.k0 : LK vespersref09_Of.X0 vespersref09_Of.Y0 := ⟨vespersref09_Of.tm0, vespersref09_Of.tr0, vespersref09_Of.decX0, vespersref09_Of.encX0, vespersref09_Of.decY0, vespersref09_Of.encY0⟩
theorem vespersref09_Of.k0_ok : vespersref09_Of.k0.OK := ⟨vespersref09_Of.decX0_ok, vespersref09_Of.decY0_ok⟩
def vespersref09_Of.step0 (x : vespersref09_Of.X0) : Option (vespersref09_Of.X0 ⊕ (vespersref09_Of.X0 ⊕ vespersref09_Of.Y0)) :=
  (if x.fst ≥ x.snd.snd.snd.fst then some (Sum.inl (wrap64 (x.fst - x.snd.snd.snd.fst), x.snd.fst, x.snd.snd.fst, x.snd.snd.snd.fst, x.snd.snd.snd.snd.fst, x.snd.snd.snd.snd.snd.fst, x.snd.snd.snd.snd.snd.snd.fst, x.snd.snd.snd.snd.snd.snd.snd.fst, x.snd.snd.snd.snd.snd.snd.snd.snd.fst, x.snd.snd.snd.snd.snd.snd.snd.snd.snd.fst, x.snd.snd.snd.snd.snd.snd.snd.snd.snd.snd.fst, x.snd.snd.snd.snd.snd.snd.snd.snd.snd.snd.snd.fst, x.snd.snd.snd.snd.snd.snd.snd.snd.snd.snd.snd.snd.fst, x.snd.snd.snd.snd.snd.snd.snd.snd.snd.snd.snd.snd.snd.fst, x.snd.snd.snd.snd.snd.snd.snd.snd.snd.snd.snd.snd.snd.snd.fst, x.snd.snd.snd.snd.snd.snd.snd.snd.snd.snd.snd.snd.snd.snd.snd.fst, x.snd.snd.snd.snd.snd.snd.snd.snd.snd.snd.snd.snd.snd.snd.snd.snd.fst, x.snd.snd.snd.snd.snd.snd.snd.snd.snd.snd.snd.snd.snd.snd.snd.snd.snd.fst, wrap64 (x.snd.snd.snd.snd.snd.snd.snd.snd.snd.snd.snd.snd.snd.snd.snd.snd.snd.snd + 1))) else some (Sum.inr (Sum.inl (x.fst, x.snd.fst, x.snd.snd.fst, x.snd.snd.snd.fst, x.snd.snd.snd.snd.fst, x.snd.snd.snd.snd.snd.fst, x.snd.snd.snd.snd.snd.snd.fst, x.snd.snd.snd.snd.snd.snd.snd.fst, x.snd.snd.snd.snd.snd.snd.snd.snd.fst, x.snd.snd.snd.snd.snd.snd.snd.snd.snd.fst, x.snd.snd.snd.snd.snd.snd.snd.snd.snd.snd.fst, x.snd.snd.snd.snd.snd.snd.snd.snd.snd.snd.snd.fst, x.snd.snd.snd.snd.snd.snd.snd.snd.snd.snd.snd.snd.fst, x.snd.snd.snd.snd.snd.snd.snd.snd.snd.snd.snd.snd.snd.fst, x.snd.snd.snd.snd.snd.snd.snd.snd.snd.snd.snd.snd.snd.snd.fst, x.snd.snd.snd.snd.snd.snd.snd.snd.snd.snd.snd.snd.snd.snd.snd.fst, x.snd.snd.snd.snd.snd.snd.snd.snd.snd.snd.snd.snd.snd.snd.snd.snd.fst, x.snd.snd.snd.snd.snd.snd.snd.snd.snd.snd.snd.snd.snd.snd.snd.snd.snd.fst, x.snd.snd.snd.snd.snd.snd.snd.snd.snd.snd.snd.snd.snd.snd.snd.snd.snd.snd))))
set_option maxRecDepth 100000 in
theorem vespersref09_Of.step0_eq (x : vespersref09_Of.X0) : (roundT Try.prog (ctOf t_vespersref09_Wait) noL 100000 vespersref09_Of.tm0 vespersref09_Of.tr0 0 vespersref09_Of.b0 (vespersref09_Of.encX0 x)).opt (leafD vespersref09_Of.decX0 vespersref09_Of.decY0) = vespersref09_Of.step0 x := by kernel_rfl
noncomputable def vespersref09_Of.lt : LTab := ltOf [(12, 0, vespersref09_Of.k0.lc vespersref09_Of.step0 vespersref09_Of.b0)]
theorem vespersref09_Of.lt_ok : LtOK Try.prog vespersref09_Of.lt := (ltOf_cons named mixed t_vespersref09_Wait_ok.ct noL_ok vespersref09_Of.k0_ok rfl vespersref09_Of.step0_eq ltOf_nil)
def vespersref09_Of.f (a0_0 : Int) (a0_1 : Int) (a0_2 : Int) (a0_3 : Int) (a0_4 : Int) (a0_5 : Int) (a0_6 : Int) (a0_7 : Int) (a0_8 : Int) (a0_9 : Int) (a0_10 : Int) (a0_11 : Int) (a0_12 : Int) (a0_13 : Int) (a0_14 : Int) (a0_15 : Int) (a1 : Int) : Option (Int × Int × Int) :=
  ((vespersref07_Round.f a0_0 a0_1 a0_2 a0_3 a0_4 a0_5 a0_6 a0_7 a0_8 a0_9 a0_10 a0_11 a0_12 a0_13 a0_14 a0_15).bind fun t0 => ((vespersref07_Check.f a0_0 a0_1 a0_2 a0_3 a0_4 a0_5 a0_6 a0_7 a0_8 a0_9 a0_10 a0_11 a0_12 a0_13 a0_14 a0_15).bind fun t1 => (if t1 ≠ 0 then some (0, 0, 90) else (if a1 < 0 then some (0, 0, 90) else (if a1 > wrap64 (2147483647 * t0) then some (0, 0, 90) else (if t0 = 0 then none else (if t0 = 0 then none else ((guardEq vespersref09_Of.b0.loop vespersref09_Of.b0.loop (rounds vespersref09_Of.step0 (a1.tmod t0, a0_0, a0_1, a0_2, a0_3, a0_4, a0_5, a0_6, a0_7, a0_8, a0_9, a0_10, a0_11, a0_12, a0_13, a0_14, a0_15, wrap64 (a1.tdiv t0), 0))).bind fun t2 => (match t2 with | .inl x3 => some (x3.snd.snd.snd.snd.snd.snd.snd.snd.snd.snd.snd.snd.snd.snd.snd.snd.snd.fst, x3.snd.snd.snd.snd.snd.snd.snd.snd.snd.snd.snd.snd.snd.snd.snd.snd.snd.snd, 0) | .inr y3 => none)))))))))
set_option maxRecDepth 100000 in
theorem vespersref09_Of.calls (a0_0 : Int) (a0_1 : Int) (a0_2 : Int) (a0_3 : Int) (a0_4 : Int) (a0_5 : Int) (a0_6 : Int) (a0_7 : Int) (a0_8 : Int) (a0_9 : Int) (a0_10 : Int) (a0_11 : Int) (a0_12 : Int) (a0_13 : Int) (a0_14 : Int) (a0_15 : Int) (a1 : Int) (r1 : Int) (r2 : Int) (r3 : Int) (w : World) (h : vespersref09_Of.f a0_0 a0_1 a0_2 a0_3 a0_4 a0_5 a0_6 a0_7 a0_8 a0_9 a0_10 a0_11 a0_12 a0_13 a0_14 a0_15 a1 = some (r1, r2, r3)) :
    Calls Try.prog 12 #[.agg #[.int .i64 a0_0, .int .i64 a0_1, .int .i64 a0_2, .int .i64 a0_3, .int .i64 a0_4, .int .i64 a0_5, .int .i64 a0_6, .int .i64 a0_7, .int .i64 a0_8, .int .i64 a0_9, .int .i64 a0_10, .int .i64 a0_11, .int .i64 a0_12, .int .i64 a0_13, .int .i64 a0_14, .int .i64 a0_15], .int .i64 a1] w fun e w' => e = .returned (.tuple #[.agg #[.int .i64 r1, .int .i64 r2], .int .i64 r3]) ∧ Below w.heap.size w w' := by
  have ht : (walk Try.prog (ctOf t_vespersref09_Wait) vespersref09_Of.lt 100000 12 [.agg [.int .i64 (.s a0_0), .int .i64 (.s a0_1), .int .i64 (.s a0_2), .int .i64 (.s a0_3), .int .i64 (.s a0_4), .int .i64 (.s a0_5), .int .i64 (.s a0_6), .int .i64 (.s a0_7), .int .i64 (.s a0_8), .int .i64 (.s a0_9), .int .i64 (.s a0_10), .int .i64 (.s a0_11), .int .i64 (.s a0_12), .int .i64 (.s a0_13), .int .i64 (.s a0_14), .int .i64 (.s a0_15)], .int .i64 (.s a1)] [] 0).opt r_i64x2_i64.dec = vespersref09_Of.f a0_0 a0_1 a0_2 a0_3 a0_4 a0_5 a0_6 a0_7 a0_8 a0_9 a0_10 a0_11 a0_12 a0_13 a0_14 a0_15 a1 := by kernel_rfl
  exact calls_of named mixed t_vespersref09_Wait_ok.ct vespersref09_Of.lt_ok ht h (by kernel_rfl) (by kernel_rfl) w fun _ _ _ _ _ hd hx => r_i64x2_i64.ok hd hx
noncomputable def vespersref09_Of.c : Entry := fun args _ => g_i64x16 args fun a0_0 a0_1 a0_2 a0_3 a0_4 a0_5 a0_6 a0_7 a0_8 a0_9 a0_10 a0_11 a0_12 a0_13 a0_14 a0_15 args => aI .i64 args fun a1 args => aN args (some { o := vespersref09_Of.f a0_0 a0_1 a0_2 a0_3 a0_4 a0_5 a0_6 a0_7 a0_8 a0_9 a0_10 a0_11 a0_12 a0_13 a0_14 a0_15 a1, enc := r_i64x2_i64.enc })
theorem vespersref09_Of.ok : EntryOK Try.prog 12 vespersref09_Of.c := by
  intro args H c h r hr ρ hn w xs hx hrel
  unfold vespersref09_Of.c at h
  obtain ⟨a0_0, a0_1, a0_2, a0_3, a0_4, a0_5, a0_6, a0_7, a0_8, a0_9, a0_10, a0_11, a0_12, a0_13, a0_14, a0_15, xs, args, rfl, hx, h⟩ := g_i64x16_ok h hx
  obtain ⟨a1, xs, args, rfl, hx, h⟩ := aI_ok h hx
  obtain ⟨rfl, h⟩ := aN_ok h hx
  cases h
  obtain ⟨r1, r2, r3⟩ := r
  refine (vespersref09_Of.calls a0_0 a0_1 a0_2 a0_3 a0_4 a0_5 a0_6 a0_7 a0_8 a0_9 a0_10 a0_11 a0_12 a0_13 a0_14 a0_15 a1 r1 r2 r3 w hr).mono ?_
  rintro e w' ⟨rfl, hb⟩
  exact ⟨_, rfl, r_i64x2_i64.enc_rel ρ (r1, r2, r3), hrel.below hb, Eff.of_below hb⟩
noncomputable def t_vespersref09_Of : List (Nat × Entry) := (12, vespersref09_Of.c) :: t_vespersref09_Wait
theorem t_vespersref09_Of_ok : TabOK Try.prog t_vespersref09_Of := TabOK.cons vespersref09_Of.ok t_vespersref09_Wait_ok
noncomputable abbrev tab_S1 : List (Nat × Entry) := t_vespersref09_Of
theorem tab_S1_ok : TabOK Try.prog tab_S1 := t_vespersref09_Of_ok
end
end Go.Proofs.Ytmbgjbliamhkmaa.S
