/- Contracts by the symbolic walk: vespersref07_numbers, vespersref07_first, vespersref07_Fails, vespersref07_Check, vespersref07_Round, vespersref09_Has, vespersref09_Begin, vespersref09_Middle, vespersref09_Sends, vespersref09_Expected, window_may, window_Judge, window_Place. -/
import Derived.Test.YtlekjgjhbanimaaProg
import Derived.Test.YtlekjgjhbanimaaSXo
import Derived.Test.YtlekjgjhbanimaaS0
namespace Go.Proofs.Ytlekjgjhbanimaa.S
open Go Go.RowKit Go.Proofs.Ytlekjgjhbanimaa.SX Go.Proofs
set_option linter.unusedVariables false
noncomputable section
def r_i64_i64_i64.dec : AV → Heap → Nat → Option (Int × Int × Int)
  | .tup [x0, x1, x2], _, _ => (dI .i64 x0).bind fun n0 => (dI .i64 x1).bind fun n1 => (dI .i64 x2).bind fun n2 => some (n0, n1, n2)
  | _, _, _ => none
def r_i64_i64_i64.enc (r : Int × Int × Int) : AV := .tup [.int .i64 (.s r.1), .int .i64 (.s r.2.1), .int .i64 (.s r.2.2)]
abbrev r_i64_i64_i64.val (r : Int × Int × Int) : Value := .tuple #[.int .i64 r.1, .int .i64 r.2.1, .int .i64 r.2.2]
theorem r_i64_i64_i64.enc_rel (ρ : Pl) (r : Int × Int × Int) : (r_i64_i64_i64.enc r).rel ρ (r_i64_i64_i64.val r) := AV.flat_rel _ rfl
theorem r_i64_i64_i64.ok {v : AV} {H : Heap} {hn : Nat} {r : Int × Int × Int} {ρ : Pl} {x : Value} (h : r_i64_i64_i64.dec v H hn = some r) (hx : v.rel ρ x) : x = r_i64_i64_i64.val r := by
  unfold r_i64_i64_i64.dec at h
  split at h
  · obtain ⟨n0, e0, h⟩ := Option.bind_eq_some_iff.1 h
    obtain ⟨n1, e1, h⟩ := Option.bind_eq_some_iff.1 h
    obtain ⟨n2, e2, h⟩ := Option.bind_eq_some_iff.1 h
    cases h
    obtain ⟨z, hx, rfl⟩ := hx
    obtain ⟨y1, y2, hy1, hx, rfl⟩ := hx
    obtain rfl := dI_ok e0 hy1
    obtain ⟨y3, y4, hy3, hx, rfl⟩ := hx
    obtain rfl := dI_ok e1 hy3
    obtain ⟨y5, y6, hy5, hx, rfl⟩ := hx
    obtain rfl := dI_ok e2 hy5
    obtain rfl := (show _ = [] from hx)
    rfl
  · cases h
def vespersref07_numbers.f (a0_0 : Int) (a0_1 : Int) (a0_2 : Int) (a0_3 : Int) (a0_4 : Int) (a0_5 : Int) (a0_6 : Int) (a0_7 : Int) (a0_8 : Int) (a0_9 : Int) (a0_10 : Int) (a0_11 : Int) (a0_12 : Int) (a0_13 : Int) (a0_14 : Int) (a0_15 : Int) : Option (Int × Int × Int) :=
  (if a0_8 = 0 then none else some (wrap64 (wrap64 (a0_7 - a0_6) + 6), wrap64 (2 * wrap64 (wrap64 ((wrap64 (2 * wrap64 (a0_0 * a0_2))).tdiv a0_8) + 4)), wrap64 (2 * wrap64 (wrap64 (wrap64 (a0_7 - a0_6) + 6) + wrap64 (2 * wrap64 (wrap64 ((wrap64 (2 * wrap64 (a0_0 * a0_2))).tdiv a0_8) + 4))))))
set_option maxRecDepth 100000 in
theorem vespersref07_numbers.calls (a0_0 : Int) (a0_1 : Int) (a0_2 : Int) (a0_3 : Int) (a0_4 : Int) (a0_5 : Int) (a0_6 : Int) (a0_7 : Int) (a0_8 : Int) (a0_9 : Int) (a0_10 : Int) (a0_11 : Int) (a0_12 : Int) (a0_13 : Int) (a0_14 : Int) (a0_15 : Int) (r1 : Int) (r2 : Int) (r3 : Int) (w : World) (h : vespersref07_numbers.f a0_0 a0_1 a0_2 a0_3 a0_4 a0_5 a0_6 a0_7 a0_8 a0_9 a0_10 a0_11 a0_12 a0_13 a0_14 a0_15 = some (r1, r2, r3)) :
    Calls Try.prog 75 #[.agg #[.int .i64 a0_0, .int .i64 a0_1, .int .i64 a0_2, .int .i64 a0_3, .int .i64 a0_4, .int .i64 a0_5, .int .i64 a0_6, .int .i64 a0_7, .int .i64 a0_8, .int .i64 a0_9, .int .i64 a0_10, .int .i64 a0_11, .int .i64 a0_12, .int .i64 a0_13, .int .i64 a0_14, .int .i64 a0_15]] w fun e w' => e = .returned (.tuple #[.int .i64 r1, .int .i64 r2, .int .i64 r3]) ∧ Below w.heap.size w w' := by
  have ht : (walk Try.prog (ctOf tab_S0) noL 100000 75 [.agg [.int .i64 (.s a0_0), .int .i64 (.s a0_1), .int .i64 (.s a0_2), .int .i64 (.s a0_3), .int .i64 (.s a0_4), .int .i64 (.s a0_5), .int .i64 (.s a0_6), .int .i64 (.s a0_7), .int .i64 (.s a0_8), .int .i64 (.s a0_9), .int .i64 (.s a0_10), .int .i64 (.s a0_11), .int .i64 (.s a0_12), .int .i64 (.s a0_13), .int .i64 (.s a0_14), .int .i64 (.s a0_15)]] [] 0).opt r_i64_i64_i64.dec = vespersref07_numbers.f a0_0 a0_1 a0_2 a0_3 a0_4 a0_5 a0_6 a0_7 a0_8 a0_9 a0_10 a0_11 a0_12 a0_13 a0_14 a0_15 := by kernel_rfl
  exact calls_of named mixed tab_S0_ok.ct noL_ok ht h (by kernel_rfl) (by kernel_rfl) w fun _ _ _ _ _ hd hx => r_i64_i64_i64.ok hd hx
noncomputable def vespersref07_numbers.c : Entry := fun args _ _ => g_i64x16 args fun a0_0 a0_1 a0_2 a0_3 a0_4 a0_5 a0_6 a0_7 a0_8 a0_9 a0_10 a0_11 a0_12 a0_13 a0_14 a0_15 args => aN args (some { o := vespersref07_numbers.f a0_0 a0_1 a0_2 a0_3 a0_4 a0_5 a0_6 a0_7 a0_8 a0_9 a0_10 a0_11 a0_12 a0_13 a0_14 a0_15, enc := r_i64_i64_i64.enc })
theorem vespersref07_numbers.ok : EntryOK Try.prog 75 vespersref07_numbers.c := by
  intro args H hn c h _ r hr ρ w xs hx hrel
  unfold vespersref07_numbers.c at h
  obtain ⟨a0_0, a0_1, a0_2, a0_3, a0_4, a0_5, a0_6, a0_7, a0_8, a0_9, a0_10, a0_11, a0_12, a0_13, a0_14, a0_15, xs, args, rfl, hx, h⟩ := g_i64x16_ok h hx
  obtain ⟨rfl, h⟩ := aN_ok h hx
  cases h
  obtain ⟨r1, r2, r3⟩ := r
  refine (vespersref07_numbers.calls a0_0 a0_1 a0_2 a0_3 a0_4 a0_5 a0_6 a0_7 a0_8 a0_9 a0_10 a0_11 a0_12 a0_13 a0_14 a0_15 r1 r2 r3 w hr).mono ?_
  rintro e w' ⟨rfl, hb⟩
  exact ⟨_, ρ, rfl, r_i64_i64_i64.enc_rel ρ (r1, r2, r3), ⟨rfl, hrel.below hb⟩, Eff.of_below hb⟩
noncomputable def t_vespersref07_numbers : List (Nat × Entry) := (75, vespersref07_numbers.c) :: tab_S0
theorem t_vespersref07_numbers_ok : TabOK Try.prog t_vespersref07_numbers := TabOK.cons vespersref07_numbers.ok tab_S0_ok
def vespersref07_first.f (a0_0 : Int) (a0_1 : Int) (a0_2 : Int) (a0_3 : Int) (a0_4 : Int) (a0_5 : Int) (a0_6 : Int) (a0_7 : Int) (a0_8 : Int) (a0_9 : Int) (a0_10 : Int) (a0_11 : Int) (a0_12 : Int) (a0_13 : Int) (a0_14 : Int) (a0_15 : Int) : Option Int :=
  (if a0_0 < 4 then some 1 else (if a0_0 > 16 then some 1 else (if a0_1 < 0 then some 1 else (if a0_1 > 16 then some 1 else (if a0_0 < wrap64 (wrap64 (2 * a0_1) + 2) then some 1 else (if a0_5 < 1 then some 2 else (if a0_5 > 1048576 then some 2 else (if a0_6 < 0 then some 2 else (if a0_7 < a0_6 then some 2 else (if a0_7 > 1048576 then some 2 else (if a0_2 < 1 then some 3 else (if a0_2 > 1048576 then some 3 else (if a0_8 < 4 then some 3 else (if a0_8 > 1048576 then some 3 else some 0))))))))))))))
set_option maxRecDepth 100000 in
theorem vespersref07_first.calls (a0_0 : Int) (a0_1 : Int) (a0_2 : Int) (a0_3 : Int) (a0_4 : Int) (a0_5 : Int) (a0_6 : Int) (a0_7 : Int) (a0_8 : Int) (a0_9 : Int) (a0_10 : Int) (a0_11 : Int) (a0_12 : Int) (a0_13 : Int) (a0_14 : Int) (a0_15 : Int) (r : Int) (w : World) (h : vespersref07_first.f a0_0 a0_1 a0_2 a0_3 a0_4 a0_5 a0_6 a0_7 a0_8 a0_9 a0_10 a0_11 a0_12 a0_13 a0_14 a0_15 = some r) :
    Calls Try.prog 56 #[.agg #[.int .i64 a0_0, .int .i64 a0_1, .int .i64 a0_2, .int .i64 a0_3, .int .i64 a0_4, .int .i64 a0_5, .int .i64 a0_6, .int .i64 a0_7, .int .i64 a0_8, .int .i64 a0_9, .int .i64 a0_10, .int .i64 a0_11, .int .i64 a0_12, .int .i64 a0_13, .int .i64 a0_14, .int .i64 a0_15]] w fun e w' => e = .returned (.int .i64 r) ∧ Below w.heap.size w w' := by
  have ht : (walk Try.prog (ctOf t_vespersref07_numbers) noL 100000 56 [.agg [.int .i64 (.s a0_0), .int .i64 (.s a0_1), .int .i64 (.s a0_2), .int .i64 (.s a0_3), .int .i64 (.s a0_4), .int .i64 (.s a0_5), .int .i64 (.s a0_6), .int .i64 (.s a0_7), .int .i64 (.s a0_8), .int .i64 (.s a0_9), .int .i64 (.s a0_10), .int .i64 (.s a0_11), .int .i64 (.s a0_12), .int .i64 (.s a0_13), .int .i64 (.s a0_14), .int .i64 (.s a0_15)]] [] 0).opt r_i64.dec = vespersref07_first.f a0_0 a0_1 a0_2 a0_3 a0_4 a0_5 a0_6 a0_7 a0_8 a0_9 a0_10 a0_11 a0_12 a0_13 a0_14 a0_15 := by kernel_rfl
  exact calls_of named mixed t_vespersref07_numbers_ok.ct noL_ok ht h (by kernel_rfl) (by kernel_rfl) w fun _ _ _ _ _ hd hx => r_i64.ok hd hx
noncomputable def vespersref07_first.c : Entry := fun args _ _ => g_i64x16 args fun a0_0 a0_1 a0_2 a0_3 a0_4 a0_5 a0_6 a0_7 a0_8 a0_9 a0_10 a0_11 a0_12 a0_13 a0_14 a0_15 args => aN args (some { o := vespersref07_first.f a0_0 a0_1 a0_2 a0_3 a0_4 a0_5 a0_6 a0_7 a0_8 a0_9 a0_10 a0_11 a0_12 a0_13 a0_14 a0_15, enc := r_i64.enc })
theorem vespersref07_first.ok : EntryOK Try.prog 56 vespersref07_first.c := by
  intro args H hn c h _ r hr ρ w xs hx hrel
  unfold vespersref07_first.c at h
  obtain ⟨a0_0, a0_1, a0_2, a0_3, a0_4, a0_5, a0_6, a0_7, a0_8, a0_9, a0_10, a0_11, a0_12, a0_13, a0_14, a0_15, xs, args, rfl, hx, h⟩ := g_i64x16_ok h hx
  obtain ⟨rfl, h⟩ := aN_ok h hx
  cases h
  refine (vespersref07_first.calls a0_0 a0_1 a0_2 a0_3 a0_4 a0_5 a0_6 a0_7 a0_8 a0_9 a0_10 a0_11 a0_12 a0_13 a0_14 a0_15 r w hr).mono ?_
  rintro e w' ⟨rfl, hb⟩
  exact ⟨_, ρ, rfl, r_i64.enc_rel ρ r, ⟨rfl, hrel.below hb⟩, Eff.of_below hb⟩
noncomputable def t_vespersref07_first : List (Nat × Entry) := (56, vespersref07_first.c) :: t_vespersref07_numbers
theorem t_vespersref07_first_ok : TabOK Try.prog t_vespersref07_first := TabOK.cons vespersref07_first.ok t_vespersref07_numbers_ok
def vespersref07_Fails.f (a0_0 : Int) (a0_1 : Int) (a0_2 : Int) (a0_3 : Int) (a0_4 : Int) (a0_5 : Int) (a0_6 : Int) (a0_7 : Int) (a0_8 : Int) (a0_9 : Int) (a0_10 : Int) (a0_11 : Int) (a0_12 : Int) (a0_13 : Int) (a0_14 : Int) (a0_15 : Int) : Option Int :=
  ((vespersref07_first.f a0_0 a0_1 a0_2 a0_3 a0_4 a0_5 a0_6 a0_7 a0_8 a0_9 a0_10 a0_11 a0_12 a0_13 a0_14 a0_15).bind fun t0 => (if t0 > 0 then some t0 else ((vespersref07_numbers.f a0_0 a0_1 a0_2 a0_3 a0_4 a0_5 a0_6 a0_7 a0_8 a0_9 a0_10 a0_11 a0_12 a0_13 a0_14 a0_15).bind fun t1 => (if a0_9 < wrap64 (wrap64 (2 * wrap64 (t1.snd.snd + t1.snd.fst)) + t1.fst) then some 4 else (if a0_9 > 1048576 then some 4 else (if a0_4 < wrap64 (a0_9 + t1.fst) then some 5 else (if a0_4 > 1048576 then some 5 else (if a0_10 < wrap64 (wrap64 (t1.snd.snd + wrap64 (2 * t1.snd.fst)) + wrap64 (2 * t1.fst)) then some 6 else (if a0_10 > 1048576 then some 6 else (if a0_3 < wrap64 (wrap64 (a0_4 + a0_10) + a0_9) then some 7 else (if a0_3 > 1048576 then some 7 else (if a0_2 < wrap64 (wrap64 (wrap64 (wrap64 (wrap64 (wrap64 (a0_3 + a0_4) + wrap64 (2 * a0_7)) + wrap64 (2 * a0_5)) + a0_10) + a0_9) + 8) then some 8 else (if a0_12 < 1 then some 9 else (if a0_12 > 64 then some 9 else (if a0_13 < 1 then some 9 else (if a0_13 > 8 then some 9 else (if a0_14 < 1 then some 9 else (if a0_14 > 32 then some 9 else (if a0_13 = 0 then none else (if wrap64 (wrap64 (a0_12.tdiv a0_13) * a0_13) < a0_12 then (if a0_11 < wrap64 (wrap64 (wrap64 (wrap64 (wrap64 (a0_12.tdiv a0_13) + 1) + 3) * wrap64 (a0_0 * a0_2)) + wrap64 (2 * a0_9)) then some 10 else (if a0_11 > wrap64 (64 * wrap64 (a0_0 * a0_2)) then some 10 else (if a0_15 < wrap64 (40 * wrap64 (a0_0 * a0_2)) then some 11 else (if a0_15 > 2147483648 then some 11 else some 0)))) else (if a0_11 < wrap64 (wrap64 (wrap64 (wrap64 (a0_12.tdiv a0_13) + 3) * wrap64 (a0_0 * a0_2)) + wrap64 (2 * a0_9)) then some 10 else (if a0_11 > wrap64 (64 * wrap64 (a0_0 * a0_2)) then some 10 else (if a0_15 < wrap64 (40 * wrap64 (a0_0 * a0_2)) then some 11 else (if a0_15 > 2147483648 then some 11 else some 0))))))))))))))))))))))))
set_option maxRecDepth 100000 in
theorem vespersref07_Fails.calls (a0_0 : Int) (a0_1 : Int) (a0_2 : Int) (a0_3 : Int) (a0_4 : Int) (a0_5 : Int) (a0_6 : Int) (a0_7 : Int) (a0_8 : Int) (a0_9 : Int) (a0_10 : Int) (a0_11 : Int) (a0_12 : Int) (a0_13 : Int) (a0_14 : Int) (a0_15 : Int) (r : Int) (w : World) (h : vespersref07_Fails.f a0_0 a0_1 a0_2 a0_3 a0_4 a0_5 a0_6 a0_7 a0_8 a0_9 a0_10 a0_11 a0_12 a0_13 a0_14 a0_15 = some r) :
    Calls Try.prog 57 #[.agg #[.int .i64 a0_0, .int .i64 a0_1, .int .i64 a0_2, .int .i64 a0_3, .int .i64 a0_4, .int .i64 a0_5, .int .i64 a0_6, .int .i64 a0_7, .int .i64 a0_8, .int .i64 a0_9, .int .i64 a0_10, .int .i64 a0_11, .int .i64 a0_12, .int .i64 a0_13, .int .i64 a0_14, .int .i64 a0_15]] w fun e w' => e = .returned (.int .i64 r) ∧ Below w.heap.size w w' := by
  have ht : (walk Try.prog (ctOf t_vespersref07_first) noL 100000 57 [.agg [.int .i64 (.s a0_0), .int .i64 (.s a0_1), .int .i64 (.s a0_2), .int .i64 (.s a0_3), .int .i64 (.s a0_4), .int .i64 (.s a0_5), .int .i64 (.s a0_6), .int .i64 (.s a0_7), .int .i64 (.s a0_8), .int .i64 (.s a0_9), .int .i64 (.s a0_10), .int .i64 (.s a0_11), .int .i64 (.s a0_12), .int .i64 (.s a0_13), .int .i64 (.s a0_14), .int .i64 (.s a0_15)]] [] 0).opt r_i64.dec = vespersref07_Fails.f a0_0 a0_1 a0_2 a0_3 a0_4 a0_5 a0_6 a0_7 a0_8 a0_9 a0_10 a0_11 a0_12 a0_13 a0_14 a0_15 := by kernel_rfl
  exact calls_of named mixed t_vespersref07_first_ok.ct noL_ok ht h (by kernel_rfl) (by kernel_rfl) w fun _ _ _ _ _ hd hx => r_i64.ok hd hx
noncomputable def vespersref07_Fails.c : Entry := fun args _ _ => g_i64x16 args fun a0_0 a0_1 a0_2 a0_3 a0_4 a0_5 a0_6 a0_7 a0_8 a0_9 a0_10 a0_11 a0_12 a0_13 a0_14 a0_15 args => aN args (some { o := vespersref07_Fails.f a0_0 a0_1 a0_2 a0_3 a0_4 a0_5 a0_6 a0_7 a0_8 a0_9 a0_10 a0_11 a0_12 a0_13 a0_14 a0_15, enc := r_i64.enc })
theorem vespersref07_Fails.ok : EntryOK Try.prog 57 vespersref07_Fails.c := by
  intro args H hn c h _ r hr ρ w xs hx hrel
  unfold vespersref07_Fails.c at h
  obtain ⟨a0_0, a0_1, a0_2, a0_3, a0_4, a0_5, a0_6, a0_7, a0_8, a0_9, a0_10, a0_11, a0_12, a0_13, a0_14, a0_15, xs, args, rfl, hx, h⟩ := g_i64x16_ok h hx
  obtain ⟨rfl, h⟩ := aN_ok h hx
  cases h
  refine (vespersref07_Fails.calls a0_0 a0_1 a0_2 a0_3 a0_4 a0_5 a0_6 a0_7 a0_8 a0_9 a0_10 a0_11 a0_12 a0_13 a0_14 a0_15 r w hr).mono ?_
  rintro e w' ⟨rfl, hb⟩
  exact ⟨_, ρ, rfl, r_i64.enc_rel ρ r, ⟨rfl, hrel.below hb⟩, Eff.of_below hb⟩
noncomputable def t_vespersref07_Fails : List (Nat × Entry) := (57, vespersref07_Fails.c) :: t_vespersref07_first
theorem t_vespersref07_Fails_ok : TabOK Try.prog t_vespersref07_Fails := TabOK.cons vespersref07_Fails.ok t_vespersref07_first_ok
def vespersref07_Check.f (a0_0 : Int) (a0_1 : Int) (a0_2 : Int) (a0_3 : Int) (a0_4 : Int) (a0_5 : Int) (a0_6 : Int) (a0_7 : Int) (a0_8 : Int) (a0_9 : Int) (a0_10 : Int) (a0_11 : Int) (a0_12 : Int) (a0_13 : Int) (a0_14 : Int) (a0_15 : Int) : Option Int :=
  ((vespersref07_Fails.f a0_0 a0_1 a0_2 a0_3 a0_4 a0_5 a0_6 a0_7 a0_8 a0_9 a0_10 a0_11 a0_12 a0_13 a0_14 a0_15).bind fun t0 => (if t0 > 0 then some 70 else some 0))
set_option maxRecDepth 100000 in
theorem vespersref07_Check.calls (a0_0 : Int) (a0_1 : Int) (a0_2 : Int) (a0_3 : Int) (a0_4 : Int) (a0_5 : Int) (a0_6 : Int) (a0_7 : Int) (a0_8 : Int) (a0_9 : Int) (a0_10 : Int) (a0_11 : Int) (a0_12 : Int) (a0_13 : Int) (a0_14 : Int) (a0_15 : Int) (r : Int) (w : World) (h : vespersref07_Check.f a0_0 a0_1 a0_2 a0_3 a0_4 a0_5 a0_6 a0_7 a0_8 a0_9 a0_10 a0_11 a0_12 a0_13 a0_14 a0_15 = some r) :
    Calls Try.prog 46 #[.agg #[.int .i64 a0_0, .int .i64 a0_1, .int .i64 a0_2, .int .i64 a0_3, .int .i64 a0_4, .int .i64 a0_5, .int .i64 a0_6, .int .i64 a0_7, .int .i64 a0_8, .int .i64 a0_9, .int .i64 a0_10, .int .i64 a0_11, .int .i64 a0_12, .int .i64 a0_13, .int .i64 a0_14, .int .i64 a0_15]] w fun e w' => e = .returned (.int .i64 r) ∧ Below w.heap.size w w' := by
  have ht : (walk Try.prog (ctOf t_vespersref07_Fails) noL 100000 46 [.agg [.int .i64 (.s a0_0), .int .i64 (.s a0_1), .int .i64 (.s a0_2), .int .i64 (.s a0_3), .int .i64 (.s a0_4), .int .i64 (.s a0_5), .int .i64 (.s a0_6), .int .i64 (.s a0_7), .int .i64 (.s a0_8), .int .i64 (.s a0_9), .int .i64 (.s a0_10), .int .i64 (.s a0_11), .int .i64 (.s a0_12), .int .i64 (.s a0_13), .int .i64 (.s a0_14), .int .i64 (.s a0_15)]] [] 0).opt r_i64.dec = vespersref07_Check.f a0_0 a0_1 a0_2 a0_3 a0_4 a0_5 a0_6 a0_7 a0_8 a0_9 a0_10 a0_11 a0_12 a0_13 a0_14 a0_15 := by kernel_rfl
  exact calls_of named mixed t_vespersref07_Fails_ok.ct noL_ok ht h (by kernel_rfl) (by kernel_rfl) w fun _ _ _ _ _ hd hx => r_i64.ok hd hx
noncomputable def vespersref07_Check.c : Entry := fun args _ _ => g_i64x16 args fun a0_0 a0_1 a0_2 a0_3 a0_4 a0_5 a0_6 a0_7 a0_8 a0_9 a0_10 a0_11 a0_12 a0_13 a0_14 a0_15 args => aN args (some { o := vespersref07_Check.f a0_0 a0_1 a0_2 a0_3 a0_4 a0_5 a0_6 a0_7 a0_8 a0_9 a0_10 a0_11 a0_12 a0_13 a0_14 a0_15, enc := r_i64.enc })
theorem vespersref07_Check.ok : EntryOK Try.prog 46 vespersref07_Check.c := by
  intro args H hn c h _ r hr ρ w xs hx hrel
  unfold vespersref07_Check.c at h
  obtain ⟨a0_0, a0_1, a0_2, a0_3, a0_4, a0_5, a0_6, a0_7, a0_8, a0_9, a0_10, a0_11, a0_12, a0_13, a0_14, a0_15, xs, args, rfl, hx, h⟩ := g_i64x16_ok h hx
  obtain ⟨rfl, h⟩ := aN_ok h hx
  cases h
  refine (vespersref07_Check.calls a0_0 a0_1 a0_2 a0_3 a0_4 a0_5 a0_6 a0_7 a0_8 a0_9 a0_10 a0_11 a0_12 a0_13 a0_14 a0_15 r w hr).mono ?_
  rintro e w' ⟨rfl, hb⟩
  exact ⟨_, ρ, rfl, r_i64.enc_rel ρ r, ⟨rfl, hrel.below hb⟩, Eff.of_below hb⟩
noncomputable def t_vespersref07_Check : List (Nat × Entry) := (46, vespersref07_Check.c) :: t_vespersref07_Fails
theorem t_vespersref07_Check_ok : TabOK Try.prog t_vespersref07_Check := TabOK.cons vespersref07_Check.ok t_vespersref07_Fails_ok
def vespersref07_Round.f (a0_0 : Int) (a0_1 : Int) (a0_2 : Int) (a0_3 : Int) (a0_4 : Int) (a0_5 : Int) (a0_6 : Int) (a0_7 : Int) (a0_8 : Int) (a0_9 : Int) (a0_10 : Int) (a0_11 : Int) (a0_12 : Int) (a0_13 : Int) (a0_14 : Int) (a0_15 : Int) : Option Int :=
  ((vespersref07_first.f a0_0 a0_1 a0_2 a0_3 a0_4 a0_5 a0_6 a0_7 a0_8 a0_9 a0_10 a0_11 a0_12 a0_13 a0_14 a0_15).bind fun t0 => (if t0 > 0 then some 0 else some (wrap64 (a0_0 * a0_2))))
set_option maxRecDepth 100000 in
theorem vespersref07_Round.calls (a0_0 : Int) (a0_1 : Int) (a0_2 : Int) (a0_3 : Int) (a0_4 : Int) (a0_5 : Int) (a0_6 : Int) (a0_7 : Int) (a0_8 : Int) (a0_9 : Int) (a0_10 : Int) (a0_11 : Int) (a0_12 : Int) (a0_13 : Int) (a0_14 : Int) (a0_15 : Int) (r : Int) (w : World) (h : vespersref07_Round.f a0_0 a0_1 a0_2 a0_3 a0_4 a0_5 a0_6 a0_7 a0_8 a0_9 a0_10 a0_11 a0_12 a0_13 a0_14 a0_15 = some r) :
    Calls Try.prog 45 #[.agg #[.int .i64 a0_0, .int .i64 a0_1, .int .i64 a0_2, .int .i64 a0_3, .int .i64 a0_4, .int .i64 a0_5, .int .i64 a0_6, .int .i64 a0_7, .int .i64 a0_8, .int .i64 a0_9, .int .i64 a0_10, .int .i64 a0_11, .int .i64 a0_12, .int .i64 a0_13, .int .i64 a0_14, .int .i64 a0_15]] w fun e w' => e = .returned (.int .i64 r) ∧ Below w.heap.size w w' := by
  have ht : (walk Try.prog (ctOf t_vespersref07_Check) noL 100000 45 [.agg [.int .i64 (.s a0_0), .int .i64 (.s a0_1), .int .i64 (.s a0_2), .int .i64 (.s a0_3), .int .i64 (.s a0_4), .int .i64 (.s a0_5), .int .i64 (.s a0_6), .int .i64 (.s a0_7), .int .i64 (.s a0_8), .int .i64 (.s a0_9), .int .i64 (.s a0_10), .int .i64 (.s a0_11), .int .i64 (.s a0_12), .int .i64 (.s a0_13), .int .i64 (.s a0_14), .int .i64 (.s a0_15)]] [] 0).opt r_i64.dec = vespersref07_Round.f a0_0 a0_1 a0_2 a0_3 a0_4 a0_5 a0_6 a0_7 a0_8 a0_9 a0_10 a0_11 a0_12 a0_13 a0_14 a0_15 := by kernel_rfl
  exact calls_of named mixed t_vespersref07_Check_ok.ct noL_ok ht h (by kernel_rfl) (by kernel_rfl) w fun _ _ _ _ _ hd hx => r_i64.ok hd hx
noncomputable def vespersref07_Round.c : Entry := fun args _ _ => g_i64x16 args fun a0_0 a0_1 a0_2 a0_3 a0_4 a0_5 a0_6 a0_7 a0_8 a0_9 a0_10 a0_11 a0_12 a0_13 a0_14 a0_15 args => aN args (some { o := vespersref07_Round.f a0_0 a0_1 a0_2 a0_3 a0_4 a0_5 a0_6 a0_7 a0_8 a0_9 a0_10 a0_11 a0_12 a0_13 a0_14 a0_15, enc := r_i64.enc })
theorem vespersref07_Round.ok : EntryOK Try.prog 45 vespersref07_Round.c := by
  intro args H hn c h _ r hr ρ w xs hx hrel
  unfold vespersref07_Round.c at h
  obtain ⟨a0_0, a0_1, a0_2, a0_3, a0_4, a0_5, a0_6, a0_7, a0_8, a0_9, a0_10, a0_11, a0_12, a0_13, a0_14, a0_15, xs, args, rfl, hx, h⟩ := g_i64x16_ok h hx
  obtain ⟨rfl, h⟩ := aN_ok h hx
  cases h
  refine (vespersref07_Round.calls a0_0 a0_1 a0_2 a0_3 a0_4 a0_5 a0_6 a0_7 a0_8 a0_9 a0_10 a0_11 a0_12 a0_13 a0_14 a0_15 r w hr).mono ?_
  rintro e w' ⟨rfl, hb⟩
  exact ⟨_, ρ, rfl, r_i64.enc_rel ρ r, ⟨rfl, hrel.below hb⟩, Eff.of_below hb⟩
noncomputable def t_vespersref07_Round : List (Nat × Entry) := (45, vespersref07_Round.c) :: t_vespersref07_Check
theorem t_vespersref07_Round_ok : TabOK Try.prog t_vespersref07_Round := TabOK.cons vespersref07_Round.ok t_vespersref07_Check_ok
def vespersref09_Has.f (a0_0 : Int) (a0_1 : Int) (a0_2 : Int) (a0_3 : Int) (a0_4 : Int) (a0_5 : Int) (a0_6 : Int) (a0_7 : Int) (a0_8 : Int) (a0_9 : Int) (a0_10 : Int) (a0_11 : Int) (a0_12 : Int) (a0_13 : Int) (a0_14 : Int) (a0_15 : Int) (a1_0 : Int) (a1_1 : Int) : Option Bool :=
  ((vespersref07_Check.f a0_0 a0_1 a0_2 a0_3 a0_4 a0_5 a0_6 a0_7 a0_8 a0_9 a0_10 a0_11 a0_12 a0_13 a0_14 a0_15).bind fun t0 => (if t0 ≠ 0 then some false else (if a1_1 ≥ 0 then (if a1_1 < a0_0 then (if a1_0 ≥ 0 then some (decide (a1_0 ≤ 2147483647)) else some false) else some false) else some false)))
set_option maxRecDepth 100000 in
theorem vespersref09_Has.calls (a0_0 : Int) (a0_1 : Int) (a0_2 : Int) (a0_3 : Int) (a0_4 : Int) (a0_5 : Int) (a0_6 : Int) (a0_7 : Int) (a0_8 : Int) (a0_9 : Int) (a0_10 : Int) (a0_11 : Int) (a0_12 : Int) (a0_13 : Int) (a0_14 : Int) (a0_15 : Int) (a1_0 : Int) (a1_1 : Int) (r : Bool) (w : World) (h : vespersref09_Has.f a0_0 a0_1 a0_2 a0_3 a0_4 a0_5 a0_6 a0_7 a0_8 a0_9 a0_10 a0_11 a0_12 a0_13 a0_14 a0_15 a1_0 a1_1 = some r) :
    Calls Try.prog 35 #[.agg #[.int .i64 a0_0, .int .i64 a0_1, .int .i64 a0_2, .int .i64 a0_3, .int .i64 a0_4, .int .i64 a0_5, .int .i64 a0_6, .int .i64 a0_7, .int .i64 a0_8, .int .i64 a0_9, .int .i64 a0_10, .int .i64 a0_11, .int .i64 a0_12, .int .i64 a0_13, .int .i64 a0_14, .int .i64 a0_15], .agg #[.int .i64 a1_0, .int .i64 a1_1]] w fun e w' => e = .returned (.bool r) ∧ Below w.heap.size w w' := by
  have ht : (walk Try.prog (ctOf t_vespersref07_Round) noL 100000 35 [.agg [.int .i64 (.s a0_0), .int .i64 (.s a0_1), .int .i64 (.s a0_2), .int .i64 (.s a0_3), .int .i64 (.s a0_4), .int .i64 (.s a0_5), .int .i64 (.s a0_6), .int .i64 (.s a0_7), .int .i64 (.s a0_8), .int .i64 (.s a0_9), .int .i64 (.s a0_10), .int .i64 (.s a0_11), .int .i64 (.s a0_12), .int .i64 (.s a0_13), .int .i64 (.s a0_14), .int .i64 (.s a0_15)], .agg [.int .i64 (.s a1_0), .int .i64 (.s a1_1)]] [] 0).opt r_bool.dec = vespersref09_Has.f a0_0 a0_1 a0_2 a0_3 a0_4 a0_5 a0_6 a0_7 a0_8 a0_9 a0_10 a0_11 a0_12 a0_13 a0_14 a0_15 a1_0 a1_1 := by kernel_rfl
  exact calls_of named mixed t_vespersref07_Round_ok.ct noL_ok ht h (by kernel_rfl) (by kernel_rfl) w fun _ _ _ _ _ hd hx => r_bool.ok hd hx
noncomputable def vespersref09_Has.c : Entry := fun args _ _ => g_i64x16 args fun a0_0 a0_1 a0_2 a0_3 a0_4 a0_5 a0_6 a0_7 a0_8 a0_9 a0_10 a0_11 a0_12 a0_13 a0_14 a0_15 args => g_i64x2 args fun a1_0 a1_1 args => aN args (some { o := vespersref09_Has.f a0_0 a0_1 a0_2 a0_3 a0_4 a0_5 a0_6 a0_7 a0_8 a0_9 a0_10 a0_11 a0_12 a0_13 a0_14 a0_15 a1_0 a1_1, enc := r_bool.enc })
theorem vespersref09_Has.ok : EntryOK Try.prog 35 vespersref09_Has.c := by
  intro args H hn c h _ r hr ρ w xs hx hrel
  unfold vespersref09_Has.c at h
  obtain ⟨a0_0, a0_1, a0_2, a0_3, a0_4, a0_5, a0_6, a0_7, a0_8, a0_9, a0_10, a0_11, a0_12, a0_13, a0_14, a0_15, xs, args, rfl, hx, h⟩ := g_i64x16_ok h hx
  obtain ⟨a1_0, a1_1, xs, args, rfl, hx, h⟩ := g_i64x2_ok h hx
  obtain ⟨rfl, h⟩ := aN_ok h hx
  cases h
  refine (vespersref09_Has.calls a0_0 a0_1 a0_2 a0_3 a0_4 a0_5 a0_6 a0_7 a0_8 a0_9 a0_10 a0_11 a0_12 a0_13 a0_14 a0_15 a1_0 a1_1 r w hr).mono ?_
  rintro e w' ⟨rfl, hb⟩
  exact ⟨_, ρ, rfl, r_bool.enc_rel ρ r, ⟨rfl, hrel.below hb⟩, Eff.of_below hb⟩
noncomputable def t_vespersref09_Has : List (Nat × Entry) := (35, vespersref09_Has.c) :: t_vespersref07_Round
theorem t_vespersref09_Has_ok : TabOK Try.prog t_vespersref09_Has := TabOK.cons vespersref09_Has.ok t_vespersref07_Round_ok
def vespersref09_Begin.f (a0_0 : Int) (a0_1 : Int) (a0_2 : Int) (a0_3 : Int) (a0_4 : Int) (a0_5 : Int) (a0_6 : Int) (a0_7 : Int) (a0_8 : Int) (a0_9 : Int) (a0_10 : Int) (a0_11 : Int) (a0_12 : Int) (a0_13 : Int) (a0_14 : Int) (a0_15 : Int) (a1_0 : Int) (a1_1 : Int) : Option (Int × Int) :=
  ((vespersref09_Has.f a0_0 a0_1 a0_2 a0_3 a0_4 a0_5 a0_6 a0_7 a0_8 a0_9 a0_10 a0_11 a0_12 a0_13 a0_14 a0_15 a1_0 a1_1).bind fun t0 => (if (!t0) = true then some (0, 90) else ((vespersref07_Round.f a0_0 a0_1 a0_2 a0_3 a0_4 a0_5 a0_6 a0_7 a0_8 a0_9 a0_10 a0_11 a0_12 a0_13 a0_14 a0_15).bind fun t1 => some (wrap64 (wrap64 (a1_0 * t1) + wrap64 (a1_1 * a0_2)), 0))))
set_option maxRecDepth 100000 in
theorem vespersref09_Begin.calls (a0_0 : Int) (a0_1 : Int) (a0_2 : Int) (a0_3 : Int) (a0_4 : Int) (a0_5 : Int) (a0_6 : Int) (a0_7 : Int) (a0_8 : Int) (a0_9 : Int) (a0_10 : Int) (a0_11 : Int) (a0_12 : Int) (a0_13 : Int) (a0_14 : Int) (a0_15 : Int) (a1_0 : Int) (a1_1 : Int) (r1 : Int) (r2 : Int) (w : World) (h : vespersref09_Begin.f a0_0 a0_1 a0_2 a0_3 a0_4 a0_5 a0_6 a0_7 a0_8 a0_9 a0_10 a0_11 a0_12 a0_13 a0_14 a0_15 a1_0 a1_1 = some (r1, r2)) :
    Calls Try.prog 55 #[.agg #[.int .i64 a0_0, .int .i64 a0_1, .int .i64 a0_2, .int .i64 a0_3, .int .i64 a0_4, .int .i64 a0_5, .int .i64 a0_6, .int .i64 a0_7, .int .i64 a0_8, .int .i64 a0_9, .int .i64 a0_10, .int .i64 a0_11, .int .i64 a0_12, .int .i64 a0_13, .int .i64 a0_14, .int .i64 a0_15], .agg #[.int .i64 a1_0, .int .i64 a1_1]] w fun e w' => e = .returned (.tuple #[.int .i64 r1, .int .i64 r2]) ∧ Below w.heap.size w w' := by
  have ht : (walk Try.prog (ctOf t_vespersref09_Has) noL 100000 55 [.agg [.int .i64 (.s a0_0), .int .i64 (.s a0_1), .int .i64 (.s a0_2), .int .i64 (.s a0_3), .int .i64 (.s a0_4), .int .i64 (.s a0_5), .int .i64 (.s a0_6), .int .i64 (.s a0_7), .int .i64 (.s a0_8), .int .i64 (.s a0_9), .int .i64 (.s a0_10), .int .i64 (.s a0_11), .int .i64 (.s a0_12), .int .i64 (.s a0_13), .int .i64 (.s a0_14), .int .i64 (.s a0_15)], .agg [.int .i64 (.s a1_0), .int .i64 (.s a1_1)]] [] 0).opt r_i64_i64.dec = vespersref09_Begin.f a0_0 a0_1 a0_2 a0_3 a0_4 a0_5 a0_6 a0_7 a0_8 a0_9 a0_10 a0_11 a0_12 a0_13 a0_14 a0_15 a1_0 a1_1 := by kernel_rfl
  exact calls_of named mixed t_vespersref09_Has_ok.ct noL_ok ht h (by kernel_rfl) (by kernel_rfl) w fun _ _ _ _ _ hd hx => r_i64_i64.ok hd hx
noncomputable def vespersref09_Begin.c : Entry := fun args _ _ => g_i64x16 args fun a0_0 a0_1 a0_2 a0_3 a0_4 a0_5 a0_6 a0_7 a0_8 a0_9 a0_10 a0_11 a0_12 a0_13 a0_14 a0_15 args => g_i64x2 args fun a1_0 a1_1 args => aN args (some { o := vespersref09_Begin.f a0_0 a0_1 a0_2 a0_3 a0_4 a0_5 a0_6 a0_7 a0_8 a0_9 a0_10 a0_11 a0_12 a0_13 a0_14 a0_15 a1_0 a1_1, enc := r_i64_i64.enc })
theorem vespersref09_Begin.ok : EntryOK Try.prog 55 vespersref09_Begin.c := by
  intro args H hn c h _ r hr ρ w xs hx hrel
  unfold vespersref09_Begin.c at h
  obtain ⟨a0_0, a0_1, a0_2, a0_3, a0_4, a0_5, a0_6, a0_7, a0_8, a0_9, a0_10, a0_11, a0_12, a0_13, a0_14, a0_15, xs, args, rfl, hx, h⟩ := g_i64x16_ok h hx
  obtain ⟨a1_0, a1_1, xs, args, rfl, hx, h⟩ := g_i64x2_ok h hx
  obtain ⟨rfl, h⟩ := aN_ok h hx
  cases h
  obtain ⟨r1, r2⟩ := r
  refine (vespersref09_Begin.calls a0_0 a0_1 a0_2 a0_3 a0_4 a0_5 a0_6 a0_7 a0_8 a0_9 a0_10 a0_11 a0_12 a0_13 a0_14 a0_15 a1_0 a1_1 r1 r2 w hr).mono ?_
  rintro e w' ⟨rfl, hb⟩
  exact ⟨_, ρ, rfl, r_i64_i64.enc_rel ρ (r1, r2), ⟨rfl, hrel.below hb⟩, Eff.of_below hb⟩
noncomputable def t_vespersref09_Begin : List (Nat × Entry) := (55, vespersref09_Begin.c) :: t_vespersref09_Has
theorem t_vespersref09_Begin_ok : TabOK Try.prog t_vespersref09_Begin := TabOK.cons vespersref09_Begin.ok t_vespersref09_Has_ok
def vespersref09_Middle.f (a0_0 : Int) (a0_1 : Int) (a0_2 : Int) (a0_3 : Int) (a0_4 : Int) (a0_5 : Int) (a0_6 : Int) (a0_7 : Int) (a0_8 : Int) (a0_9 : Int) (a0_10 : Int) (a0_11 : Int) (a0_12 : Int) (a0_13 : Int) (a0_14 : Int) (a0_15 : Int) : Option Int :=
  ((vespersref07_Check.f a0_0 a0_1 a0_2 a0_3 a0_4 a0_5 a0_6 a0_7 a0_8 a0_9 a0_10 a0_11 a0_12 a0_13 a0_14 a0_15).bind fun t0 => (if t0 ≠ 0 then some 0 else some (wrap64 (a0_6 + wrap64 ((wrap64 (a0_7 - a0_6)).tdiv 2)))))
set_option maxRecDepth 100000 in
theorem vespersref09_Middle.calls (a0_0 : Int) (a0_1 : Int) (a0_2 : Int) (a0_3 : Int) (a0_4 : Int) (a0_5 : Int) (a0_6 : Int) (a0_7 : Int) (a0_8 : Int) (a0_9 : Int) (a0_10 : Int) (a0_11 : Int) (a0_12 : Int) (a0_13 : Int) (a0_14 : Int) (a0_15 : Int) (r : Int) (w : World) (h : vespersref09_Middle.f a0_0 a0_1 a0_2 a0_3 a0_4 a0_5 a0_6 a0_7 a0_8 a0_9 a0_10 a0_11 a0_12 a0_13 a0_14 a0_15 = some r) :
    Calls Try.prog 44 #[.agg #[.int .i64 a0_0, .int .i64 a0_1, .int .i64 a0_2, .int .i64 a0_3, .int .i64 a0_4, .int .i64 a0_5, .int .i64 a0_6, .int .i64 a0_7, .int .i64 a0_8, .int .i64 a0_9, .int .i64 a0_10, .int .i64 a0_11, .int .i64 a0_12, .int .i64 a0_13, .int .i64 a0_14, .int .i64 a0_15]] w fun e w' => e = .returned (.int .i64 r) ∧ Below w.heap.size w w' := by
  have ht : (walk Try.prog (ctOf t_vespersref09_Begin) noL 100000 44 [.agg [.int .i64 (.s a0_0), .int .i64 (.s a0_1), .int .i64 (.s a0_2), .int .i64 (.s a0_3), .int .i64 (.s a0_4), .int .i64 (.s a0_5), .int .i64 (.s a0_6), .int .i64 (.s a0_7), .int .i64 (.s a0_8), .int .i64 (.s a0_9), .int .i64 (.s a0_10), .int .i64 (.s a0_11), .int .i64 (.s a0_12), .int .i64 (.s a0_13), .int .i64 (.s a0_14), .int .i64 (.s a0_15)]] [] 0).opt r_i64.dec = vespersref09_Middle.f a0_0 a0_1 a0_2 a0_3 a0_4 a0_5 a0_6 a0_7 a0_8 a0_9 a0_10 a0_11 a0_12 a0_13 a0_14 a0_15 := by kernel_rfl
  exact calls_of named mixed t_vespersref09_Begin_ok.ct noL_ok ht h (by kernel_rfl) (by kernel_rfl) w fun _ _ _ _ _ hd hx => r_i64.ok hd hx
noncomputable def vespersref09_Middle.c : Entry := fun args _ _ => g_i64x16 args fun a0_0 a0_1 a0_2 a0_3 a0_4 a0_5 a0_6 a0_7 a0_8 a0_9 a0_10 a0_11 a0_12 a0_13 a0_14 a0_15 args => aN args (some { o := vespersref09_Middle.f a0_0 a0_1 a0_2 a0_3 a0_4 a0_5 a0_6 a0_7 a0_8 a0_9 a0_10 a0_11 a0_12 a0_13 a0_14 a0_15, enc := r_i64.enc })
theorem vespersref09_Middle.ok : EntryOK Try.prog 44 vespersref09_Middle.c := by
  intro args H hn c h _ r hr ρ w xs hx hrel
  unfold vespersref09_Middle.c at h
  obtain ⟨a0_0, a0_1, a0_2, a0_3, a0_4, a0_5, a0_6, a0_7, a0_8, a0_9, a0_10, a0_11, a0_12, a0_13, a0_14, a0_15, xs, args, rfl, hx, h⟩ := g_i64x16_ok h hx
  obtain ⟨rfl, h⟩ := aN_ok h hx
  cases h
  refine (vespersref09_Middle.calls a0_0 a0_1 a0_2 a0_3 a0_4 a0_5 a0_6 a0_7 a0_8 a0_9 a0_10 a0_11 a0_12 a0_13 a0_14 a0_15 r w hr).mono ?_
  rintro e w' ⟨rfl, hb⟩
  exact ⟨_, ρ, rfl, r_i64.enc_rel ρ r, ⟨rfl, hrel.below hb⟩, Eff.of_below hb⟩
noncomputable def t_vespersref09_Middle : List (Nat × Entry) := (44, vespersref09_Middle.c) :: t_vespersref09_Begin
theorem t_vespersref09_Middle_ok : TabOK Try.prog t_vespersref09_Middle := TabOK.cons vespersref09_Middle.ok t_vespersref09_Begin_ok
def vespersref09_Sends.f (a0_0 : Int) (a0_1 : Int) (a0_2 : Int) (a0_3 : Int) (a0_4 : Int) (a0_5 : Int) (a0_6 : Int) (a0_7 : Int) (a0_8 : Int) (a0_9 : Int) (a0_10 : Int) (a0_11 : Int) (a0_12 : Int) (a0_13 : Int) (a0_14 : Int) (a0_15 : Int) (a1_0 : Int) (a1_1 : Int) : Option (Int × Int) :=
  ((vespersref09_Begin.f a0_0 a0_1 a0_2 a0_3 a0_4 a0_5 a0_6 a0_7 a0_8 a0_9 a0_10 a0_11 a0_12 a0_13 a0_14 a0_15 a1_0 a1_1).bind fun t0 => (if t0.snd ≠ 0 then some (0, t0.snd) else some (wrap64 (t0.fst + a0_3), 0)))
set_option maxRecDepth 100000 in
theorem vespersref09_Sends.calls (a0_0 : Int) (a0_1 : Int) (a0_2 : Int) (a0_3 : Int) (a0_4 : Int) (a0_5 : Int) (a0_6 : Int) (a0_7 : Int) (a0_8 : Int) (a0_9 : Int) (a0_10 : Int) (a0_11 : Int) (a0_12 : Int) (a0_13 : Int) (a0_14 : Int) (a0_15 : Int) (a1_0 : Int) (a1_1 : Int) (r1 : Int) (r2 : Int) (w : World) (h : vespersref09_Sends.f a0_0 a0_1 a0_2 a0_3 a0_4 a0_5 a0_6 a0_7 a0_8 a0_9 a0_10 a0_11 a0_12 a0_13 a0_14 a0_15 a1_0 a1_1 = some (r1, r2)) :
    Calls Try.prog 43 #[.agg #[.int .i64 a0_0, .int .i64 a0_1, .int .i64 a0_2, .int .i64 a0_3, .int .i64 a0_4, .int .i64 a0_5, .int .i64 a0_6, .int .i64 a0_7, .int .i64 a0_8, .int .i64 a0_9, .int .i64 a0_10, .int .i64 a0_11, .int .i64 a0_12, .int .i64 a0_13, .int .i64 a0_14, .int .i64 a0_15], .agg #[.int .i64 a1_0, .int .i64 a1_1]] w fun e w' => e = .returned (.tuple #[.int .i64 r1, .int .i64 r2]) ∧ Below w.heap.size w w' := by
  have ht : (walk Try.prog (ctOf t_vespersref09_Middle) noL 100000 43 [.agg [.int .i64 (.s a0_0), .int .i64 (.s a0_1), .int .i64 (.s a0_2), .int .i64 (.s a0_3), .int .i64 (.s a0_4), .int .i64 (.s a0_5), .int .i64 (.s a0_6), .int .i64 (.s a0_7), .int .i64 (.s a0_8), .int .i64 (.s a0_9), .int .i64 (.s a0_10), .int .i64 (.s a0_11), .int .i64 (.s a0_12), .int .i64 (.s a0_13), .int .i64 (.s a0_14), .int .i64 (.s a0_15)], .agg [.int .i64 (.s a1_0), .int .i64 (.s a1_1)]] [] 0).opt r_i64_i64.dec = vespersref09_Sends.f a0_0 a0_1 a0_2 a0_3 a0_4 a0_5 a0_6 a0_7 a0_8 a0_9 a0_10 a0_11 a0_12 a0_13 a0_14 a0_15 a1_0 a1_1 := by kernel_rfl
  exact calls_of named mixed t_vespersref09_Middle_ok.ct noL_ok ht h (by kernel_rfl) (by kernel_rfl) w fun _ _ _ _ _ hd hx => r_i64_i64.ok hd hx
noncomputable def vespersref09_Sends.c : Entry := fun args _ _ => g_i64x16 args fun a0_0 a0_1 a0_2 a0_3 a0_4 a0_5 a0_6 a0_7 a0_8 a0_9 a0_10 a0_11 a0_12 a0_13 a0_14 a0_15 args => g_i64x2 args fun a1_0 a1_1 args => aN args (some { o := vespersref09_Sends.f a0_0 a0_1 a0_2 a0_3 a0_4 a0_5 a0_6 a0_7 a0_8 a0_9 a0_10 a0_11 a0_12 a0_13 a0_14 a0_15 a1_0 a1_1, enc := r_i64_i64.enc })
theorem vespersref09_Sends.ok : EntryOK Try.prog 43 vespersref09_Sends.c := by
  intro args H hn c h _ r hr ρ w xs hx hrel
  unfold vespersref09_Sends.c at h
  obtain ⟨a0_0, a0_1, a0_2, a0_3, a0_4, a0_5, a0_6, a0_7, a0_8, a0_9, a0_10, a0_11, a0_12, a0_13, a0_14, a0_15, xs, args, rfl, hx, h⟩ := g_i64x16_ok h hx
  obtain ⟨a1_0, a1_1, xs, args, rfl, hx, h⟩ := g_i64x2_ok h hx
  obtain ⟨rfl, h⟩ := aN_ok h hx
  cases h
  obtain ⟨r1, r2⟩ := r
  refine (vespersref09_Sends.calls a0_0 a0_1 a0_2 a0_3 a0_4 a0_5 a0_6 a0_7 a0_8 a0_9 a0_10 a0_11 a0_12 a0_13 a0_14 a0_15 a1_0 a1_1 r1 r2 w hr).mono ?_
  rintro e w' ⟨rfl, hb⟩
  exact ⟨_, ρ, rfl, r_i64_i64.enc_rel ρ (r1, r2), ⟨rfl, hrel.below hb⟩, Eff.of_below hb⟩
noncomputable def t_vespersref09_Sends : List (Nat × Entry) := (43, vespersref09_Sends.c) :: t_vespersref09_Middle
theorem t_vespersref09_Sends_ok : TabOK Try.prog t_vespersref09_Sends := TabOK.cons vespersref09_Sends.ok t_vespersref09_Middle_ok
def vespersref09_Expected.f (a0_0 : Int) (a0_1 : Int) (a0_2 : Int) (a0_3 : Int) (a0_4 : Int) (a0_5 : Int) (a0_6 : Int) (a0_7 : Int) (a0_8 : Int) (a0_9 : Int) (a0_10 : Int) (a0_11 : Int) (a0_12 : Int) (a0_13 : Int) (a0_14 : Int) (a0_15 : Int) (a1_0 : Int) (a1_1 : Int) : Option (Int × Int × Int × Int) :=
  ((vespersref09_Sends.f a0_0 a0_1 a0_2 a0_3 a0_4 a0_5 a0_6 a0_7 a0_8 a0_9 a0_10 a0_11 a0_12 a0_13 a0_14 a0_15 a1_0 a1_1).bind fun t0 => (if t0.snd ≠ 0 then some (0, 0, 0, t0.snd) else ((vespersref09_Middle.f a0_0 a0_1 a0_2 a0_3 a0_4 a0_5 a0_6 a0_7 a0_8 a0_9 a0_10 a0_11 a0_12 a0_13 a0_14 a0_15).bind fun t1 => some (wrap64 (t0.fst + t1), wrap64 (wrap64 (t0.fst + t1) - a0_4), wrap64 (wrap64 (t0.fst + t1) + a0_4), 0))))
set_option maxRecDepth 100000 in
theorem vespersref09_Expected.calls (a0_0 : Int) (a0_1 : Int) (a0_2 : Int) (a0_3 : Int) (a0_4 : Int) (a0_5 : Int) (a0_6 : Int) (a0_7 : Int) (a0_8 : Int) (a0_9 : Int) (a0_10 : Int) (a0_11 : Int) (a0_12 : Int) (a0_13 : Int) (a0_14 : Int) (a0_15 : Int) (a1_0 : Int) (a1_1 : Int) (r1 : Int) (r2 : Int) (r3 : Int) (r4 : Int) (w : World) (h : vespersref09_Expected.f a0_0 a0_1 a0_2 a0_3 a0_4 a0_5 a0_6 a0_7 a0_8 a0_9 a0_10 a0_11 a0_12 a0_13 a0_14 a0_15 a1_0 a1_1 = some (r1, r2, r3, r4)) :
    Calls Try.prog 33 #[.agg #[.int .i64 a0_0, .int .i64 a0_1, .int .i64 a0_2, .int .i64 a0_3, .int .i64 a0_4, .int .i64 a0_5, .int .i64 a0_6, .int .i64 a0_7, .int .i64 a0_8, .int .i64 a0_9, .int .i64 a0_10, .int .i64 a0_11, .int .i64 a0_12, .int .i64 a0_13, .int .i64 a0_14, .int .i64 a0_15], .agg #[.int .i64 a1_0, .int .i64 a1_1]] w fun e w' => e = .returned (.tuple #[.int .i64 r1, .int .i64 r2, .int .i64 r3, .int .i64 r4]) ∧ Below w.heap.size w w' := by
  have ht : (walk Try.prog (ctOf t_vespersref09_Sends) noL 100000 33 [.agg [.int .i64 (.s a0_0), .int .i64 (.s a0_1), .int .i64 (.s a0_2), .int .i64 (.s a0_3), .int .i64 (.s a0_4), .int .i64 (.s a0_5), .int .i64 (.s a0_6), .int .i64 (.s a0_7), .int .i64 (.s a0_8), .int .i64 (.s a0_9), .int .i64 (.s a0_10), .int .i64 (.s a0_11), .int .i64 (.s a0_12), .int .i64 (.s a0_13), .int .i64 (.s a0_14), .int .i64 (.s a0_15)], .agg [.int .i64 (.s a1_0), .int .i64 (.s a1_1)]] [] 0).opt r_i64_i64_i64_i64.dec = vespersref09_Expected.f a0_0 a0_1 a0_2 a0_3 a0_4 a0_5 a0_6 a0_7 a0_8 a0_9 a0_10 a0_11 a0_12 a0_13 a0_14 a0_15 a1_0 a1_1 := by kernel_rfl
  exact calls_of named mixed t_vespersref09_Sends_ok.ct noL_ok ht h (by kernel_rfl) (by kernel_rfl) w fun _ _ _ _ _ hd hx => r_i64_i64_i64_i64.ok hd hx
noncomputable def vespersref09_Expected.c : Entry := fun args _ _ => g_i64x16 args fun a0_0 a0_1 a0_2 a0_3 a0_4 a0_5 a0_6 a0_7 a0_8 a0_9 a0_10 a0_11 a0_12 a0_13 a0_14 a0_15 args => g_i64x2 args fun a1_0 a1_1 args => aN args (some { o := vespersref09_Expected.f a0_0 a0_1 a0_2 a0_3 a0_4 a0_5 a0_6 a0_7 a0_8 a0_9 a0_10 a0_11 a0_12 a0_13 a0_14 a0_15 a1_0 a1_1, enc := r_i64_i64_i64_i64.enc })
theorem vespersref09_Expected.ok : EntryOK Try.prog 33 vespersref09_Expected.c := by
  intro args H hn c h _ r hr ρ w xs hx hrel
  unfold vespersref09_Expected.c at h
  obtain ⟨a0_0, a0_1, a0_2, a0_3, a0_4, a0_5, a0_6, a0_7, a0_8, a0_9, a0_10, a0_11, a0_12, a0_13, a0_14, a0_15, xs, args, rfl, hx, h⟩ := g_i64x16_ok h hx
  obtain ⟨a1_0, a1_1, xs, args, rfl, hx, h⟩ := g_i64x2_ok h hx
  obtain ⟨rfl, h⟩ := aN_ok h hx
  cases h
  obtain ⟨r1, r2, r3, r4⟩ := r
  refine (vespersref09_Expected.calls a0_0 a0_1 a0_2 a0_3 a0_4 a0_5 a0_6 a0_7 a0_8 a0_9 a0_10 a0_11 a0_12 a0_13 a0_14 a0_15 a1_0 a1_1 r1 r2 r3 r4 w hr).mono ?_
  rintro e w' ⟨rfl, hb⟩
  exact ⟨_, ρ, rfl, r_i64_i64_i64_i64.enc_rel ρ (r1, r2, r3, r4), ⟨rfl, hrel.below hb⟩, Eff.of_below hb⟩
noncomputable def t_vespersref09_Expected : List (Nat × Entry) := (33, vespersref09_Expected.c) :: t_vespersref09_Sends
theorem t_vespersref09_Expected_ok : TabOK Try.prog t_vespersref09_Expected := TabOK.cons vespersref09_Expected.ok t_vespersref09_Sends_ok
def window_may.f (a0 : Int) : Option Bool :=
  (if a0 ≥ -4294967296 then some (decide (a0 ≤ 1152921504606846976)) else some false)
set_option maxRecDepth 100000 in
theorem window_may.calls (a0 : Int) (r : Bool) (w : World) (h : window_may.f a0 = some r) :
    Calls Try.prog 23 #[.int .i64 a0] w fun e w' => e = .returned (.bool r) ∧ Below w.heap.size w w' := by
  have ht : (walk Try.prog (ctOf t_vespersref09_Expected) noL 100000 23 [.int .i64 (.s a0)] [] 0).opt r_bool.dec = window_may.f a0 := by kernel_rfl
  exact calls_of named mixed t_vespersref09_Expected_ok.ct noL_ok ht h (by kernel_rfl) (by kernel_rfl) w fun _ _ _ _ _ hd hx => r_bool.ok hd hx
noncomputable def window_may.c : Entry := fun args _ _ => aI .i64 args fun a0 args => aN args (some { o := window_may.f a0, enc := r_bool.enc })
theorem window_may.ok : EntryOK Try.prog 23 window_may.c := by
  intro args H hn c h _ r hr ρ w xs hx hrel
  unfold window_may.c at h
  obtain ⟨a0, xs, args, rfl, hx, h⟩ := aI_ok h hx
  obtain ⟨rfl, h⟩ := aN_ok h hx
  cases h
  refine (window_may.calls a0 r w hr).mono ?_
  rintro e w' ⟨rfl, hb⟩
  exact ⟨_, ρ, rfl, r_bool.enc_rel ρ r, ⟨rfl, hrel.below hb⟩, Eff.of_below hb⟩
noncomputable def t_window_may : List (Nat × Entry) := (23, window_may.c) :: t_vespersref09_Expected
theorem t_window_may_ok : TabOK Try.prog t_window_may := TabOK.cons window_may.ok t_vespersref09_Expected_ok
def window_Judge.f (a0_0 : Int) (a0_1 : Int) (a0_2 : Int) (a0_3 : Int) (a0_4 : Int) (a0_5 : Int) (a0_6 : Int) (a0_7 : Int) (a0_8 : Int) (a0_9 : Int) (a0_10 : Int) (a0_11 : Int) (a0_12 : Int) (a0_13 : Int) (a0_14 : Int) (a0_15 : Int) (a1_0 : Int) (a1_1 : Int) (a2 : Int) : Option (Int × Int × Int) :=
  ((table_Expected.f a0_0 a0_1 a0_2 a0_3 a0_4 a0_5 a0_6 a0_7 a0_8 a0_9 a0_10 a0_11 a0_12 a0_13 a0_14 a0_15 a1_0 a1_1).bind fun t0 => (if t0.snd.snd.snd ≠ 0 then some (0, 0, 160) else ((window_may.f a2).bind fun t1 => (if (!t1) = true then some (0, 0, 160) else (if a2 < t0.snd.fst then some (1, wrap64 (a2 - t0.fst), 0) else (if a2 > t0.snd.snd.fst then some (3, wrap64 (a2 - t0.fst), 0) else some (2, wrap64 (a2 - t0.fst), 0)))))))
set_option maxRecDepth 100000 in
theorem window_Judge.calls (a0_0 : Int) (a0_1 : Int) (a0_2 : Int) (a0_3 : Int) (a0_4 : Int) (a0_5 : Int) (a0_6 : Int) (a0_7 : Int) (a0_8 : Int) (a0_9 : Int) (a0_10 : Int) (a0_11 : Int) (a0_12 : Int) (a0_13 : Int) (a0_14 : Int) (a0_15 : Int) (a1_0 : Int) (a1_1 : Int) (a2 : Int) (r1 : Int) (r2 : Int) (r3 : Int) (w : World) (h : window_Judge.f a0_0 a0_1 a0_2 a0_3 a0_4 a0_5 a0_6 a0_7 a0_8 a0_9 a0_10 a0_11 a0_12 a0_13 a0_14 a0_15 a1_0 a1_1 a2 = some (r1, r2, r3)) :
    Calls Try.prog 9 #[.agg #[.int .i64 a0_0, .int .i64 a0_1, .int .i64 a0_2, .int .i64 a0_3, .int .i64 a0_4, .int .i64 a0_5, .int .i64 a0_6, .int .i64 a0_7, .int .i64 a0_8, .int .i64 a0_9, .int .i64 a0_10, .int .i64 a0_11, .int .i64 a0_12, .int .i64 a0_13, .int .i64 a0_14, .int .i64 a0_15], .agg #[.int .i64 a1_0, .int .i64 a1_1], .int .i64 a2] w fun e w' => e = .returned (.tuple #[.int .i64 r1, .int .i64 r2, .int .i64 r3]) ∧ Below w.heap.size w w' := by
  have ht : ((walk Try.prog (ctOf t_window_may) noL 100000 9 [.agg [.int .i64 (.s a0_0), .int .i64 (.s a0_1), .int .i64 (.s a0_2), .int .i64 (.s a0_3), .int .i64 (.s a0_4), .int .i64 (.s a0_5), .int .i64 (.s a0_6), .int .i64 (.s a0_7), .int .i64 (.s a0_8), .int .i64 (.s a0_9), .int .i64 (.s a0_10), .int .i64 (.s a0_11), .int .i64 (.s a0_12), .int .i64 (.s a0_13), .int .i64 (.s a0_14), .int .i64 (.s a0_15)], .agg [.int .i64 (.s a1_0), .int .i64 (.s a1_1)], .int .i64 (.s a2)] [] 0).strip).opt r_i64_i64_i64.dec = window_Judge.f a0_0 a0_1 a0_2 a0_3 a0_4 a0_5 a0_6 a0_7 a0_8 a0_9 a0_10 a0_11 a0_12 a0_13 a0_14 a0_15 a1_0 a1_1 a2 := by kernel_rfl
  have hs : (walk Try.prog (ctOf t_window_may) noL 100000 9 [.agg [.int .i64 (.s a0_0), .int .i64 (.s a0_1), .int .i64 (.s a0_2), .int .i64 (.s a0_3), .int .i64 (.s a0_4), .int .i64 (.s a0_5), .int .i64 (.s a0_6), .int .i64 (.s a0_7), .int .i64 (.s a0_8), .int .i64 (.s a0_9), .int .i64 (.s a0_10), .int .i64 (.s a0_11), .int .i64 (.s a0_12), .int .i64 (.s a0_13), .int .i64 (.s a0_14), .int .i64 (.s a0_15)], .agg [.int .i64 (.s a1_0), .int .i64 (.s a1_1)], .int .i64 (.s a2)] [] 0).fixed = walk Try.prog (ctOf t_window_may) noL 100000 9 [.agg [.int .i64 (.s a0_0), .int .i64 (.s a0_1), .int .i64 (.s a0_2), .int .i64 (.s a0_3), .int .i64 (.s a0_4), .int .i64 (.s a0_5), .int .i64 (.s a0_6), .int .i64 (.s a0_7), .int .i64 (.s a0_8), .int .i64 (.s a0_9), .int .i64 (.s a0_10), .int .i64 (.s a0_11), .int .i64 (.s a0_12), .int .i64 (.s a0_13), .int .i64 (.s a0_14), .int .i64 (.s a0_15)], .agg [.int .i64 (.s a1_0), .int .i64 (.s a1_1)], .int .i64 (.s a2)] [] 0 := by kernel_rfl
  exact calls_of' named mixed t_window_may_ok.ct noL_ok hs ht h (by kernel_rfl) (by kernel_rfl) w fun _ _ _ _ _ hd hx => r_i64_i64_i64.ok hd hx
noncomputable def window_Judge.c : Entry := fun args _ _ => g_i64x16 args fun a0_0 a0_1 a0_2 a0_3 a0_4 a0_5 a0_6 a0_7 a0_8 a0_9 a0_10 a0_11 a0_12 a0_13 a0_14 a0_15 args => g_i64x2 args fun a1_0 a1_1 args => aI .i64 args fun a2 args => aN args (some { o := window_Judge.f a0_0 a0_1 a0_2 a0_3 a0_4 a0_5 a0_6 a0_7 a0_8 a0_9 a0_10 a0_11 a0_12 a0_13 a0_14 a0_15 a1_0 a1_1 a2, enc := r_i64_i64_i64.enc })
theorem window_Judge.ok : EntryOK Try.prog 9 window_Judge.c := by
  intro args H hn c h _ r hr ρ w xs hx hrel
  unfold window_Judge.c at h
  obtain ⟨a0_0, a0_1, a0_2, a0_3, a0_4, a0_5, a0_6, a0_7, a0_8, a0_9, a0_10, a0_11, a0_12, a0_13, a0_14, a0_15, xs, args, rfl, hx, h⟩ := g_i64x16_ok h hx
  obtain ⟨a1_0, a1_1, xs, args, rfl, hx, h⟩ := g_i64x2_ok h hx
  obtain ⟨a2, xs, args, rfl, hx, h⟩ := aI_ok h hx
  obtain ⟨rfl, h⟩ := aN_ok h hx
  cases h
  obtain ⟨r1, r2, r3⟩ := r
  refine (window_Judge.calls a0_0 a0_1 a0_2 a0_3 a0_4 a0_5 a0_6 a0_7 a0_8 a0_9 a0_10 a0_11 a0_12 a0_13 a0_14 a0_15 a1_0 a1_1 a2 r1 r2 r3 w hr).mono ?_
  rintro e w' ⟨rfl, hb⟩
  exact ⟨_, ρ, rfl, r_i64_i64_i64.enc_rel ρ (r1, r2, r3), ⟨rfl, hrel.below hb⟩, Eff.of_below hb⟩
noncomputable def t_window_Judge : List (Nat × Entry) := (9, window_Judge.c) :: t_window_may
theorem t_window_Judge_ok : TabOK Try.prog t_window_Judge := TabOK.cons window_Judge.ok t_window_may_ok
def r_i64x2_bool.dec : AV → Heap → Nat → Option (Int × Int × Bool)
  | .tup [.agg [x0, x1], x2], _, _ => (dI .i64 x0).bind fun n0 => (dI .i64 x1).bind fun n1 => (dB x2).bind fun n2 => some (n0, n1, n2)
  | _, _, _ => none
def r_i64x2_bool.enc (r : Int × Int × Bool) : AV := .tup [.agg [.int .i64 (.s r.1), .int .i64 (.s r.2.1)], .bool (.s r.2.2)]
abbrev r_i64x2_bool.val (r : Int × Int × Bool) : Value := .tuple #[.agg #[.int .i64 r.1, .int .i64 r.2.1], .bool r.2.2]
theorem r_i64x2_bool.enc_rel (ρ : Pl) (r : Int × Int × Bool) : (r_i64x2_bool.enc r).rel ρ (r_i64x2_bool.val r) := AV.flat_rel _ rfl
theorem r_i64x2_bool.ok {v : AV} {H : Heap} {hn : Nat} {r : Int × Int × Bool} {ρ : Pl} {x : Value} (h : r_i64x2_bool.dec v H hn = some r) (hx : v.rel ρ x) : x = r_i64x2_bool.val r := by
  unfold r_i64x2_bool.dec at h
  split at h
  · obtain ⟨n0, e0, h⟩ := Option.bind_eq_some_iff.1 h
    obtain ⟨n1, e1, h⟩ := Option.bind_eq_some_iff.1 h
    obtain ⟨n2, e2, h⟩ := Option.bind_eq_some_iff.1 h
    cases h
    obtain ⟨z, hx, rfl⟩ := hx
    obtain ⟨y1, y2, hy1, hx, rfl⟩ := hx
    obtain ⟨y3, hy1, rfl⟩ := hy1
    obtain ⟨y4, y5, hy4, hy1, rfl⟩ := hy1
    obtain rfl := dI_ok e0 hy4
    obtain ⟨y6, y7, hy6, hy1, rfl⟩ := hy1
    obtain rfl := dI_ok e1 hy6
    obtain rfl := (show _ = [] from hy1)
    obtain ⟨y8, y9, hy8, hx, rfl⟩ := hx
    obtain rfl := dB_ok e2 hy8
    obtain rfl := (show _ = [] from hx)
    rfl
  · cases h
def window_Place.f (a0_0 : Int) (a0_1 : Int) (a0_2 : Int) (a0_3 : Int) (a0_4 : Int) (a0_5 : Int) (a0_6 : Int) (a0_7 : Int) (a0_8 : Int) (a0_9 : Int) (a0_10 : Int) (a0_11 : Int) (a0_12 : Int) (a0_13 : Int) (a0_14 : Int) (a0_15 : Int) (a1 : Int) : Option (Int × Int × Bool) :=
  ((table_Of.f a0_0 a0_1 a0_2 a0_3 a0_4 a0_5 a0_6 a0_7 a0_8 a0_9 a0_10 a0_11 a0_12 a0_13 a0_14 a0_15 a1).bind fun t0 => (if t0.snd.snd ≠ 0 then some (0, 0, false) else ((window_Judge.f a0_0 a0_1 a0_2 a0_3 a0_4 a0_5 a0_6 a0_7 a0_8 a0_9 a0_10 a0_11 a0_12 a0_13 a0_14 a0_15 t0.fst t0.snd.fst a1).bind fun t1 => (if t1.snd.snd ≠ 0 then some (0, 0, false) else (if t1.fst ≠ 2 then some (0, 0, false) else some (t0.fst, t0.snd.fst, true))))))
set_option maxRecDepth 100000 in
theorem window_Place.calls (a0_0 : Int) (a0_1 : Int) (a0_2 : Int) (a0_3 : Int) (a0_4 : Int) (a0_5 : Int) (a0_6 : Int) (a0_7 : Int) (a0_8 : Int) (a0_9 : Int) (a0_10 : Int) (a0_11 : Int) (a0_12 : Int) (a0_13 : Int) (a0_14 : Int) (a0_15 : Int) (a1 : Int) (r1 : Int) (r2 : Int) (r3 : Bool) (w : World) (h : window_Place.f a0_0 a0_1 a0_2 a0_3 a0_4 a0_5 a0_6 a0_7 a0_8 a0_9 a0_10 a0_11 a0_12 a0_13 a0_14 a0_15 a1 = some (r1, r2, r3)) :
    Calls Try.prog 14 #[.agg #[.int .i64 a0_0, .int .i64 a0_1, .int .i64 a0_2, .int .i64 a0_3, .int .i64 a0_4, .int .i64 a0_5, .int .i64 a0_6, .int .i64 a0_7, .int .i64 a0_8, .int .i64 a0_9, .int .i64 a0_10, .int .i64 a0_11, .int .i64 a0_12, .int .i64 a0_13, .int .i64 a0_14, .int .i64 a0_15], .int .i64 a1] w fun e w' => e = .returned (.tuple #[.agg #[.int .i64 r1, .int .i64 r2], .bool r3]) ∧ Below w.heap.size w w' := by
  have ht : (walk Try.prog (ctOf t_window_Judge) noL 100000 14 [.agg [.int .i64 (.s a0_0), .int .i64 (.s a0_1), .int .i64 (.s a0_2), .int .i64 (.s a0_3), .int .i64 (.s a0_4), .int .i64 (.s a0_5), .int .i64 (.s a0_6), .int .i64 (.s a0_7), .int .i64 (.s a0_8), .int .i64 (.s a0_9), .int .i64 (.s a0_10), .int .i64 (.s a0_11), .int .i64 (.s a0_12), .int .i64 (.s a0_13), .int .i64 (.s a0_14), .int .i64 (.s a0_15)], .int .i64 (.s a1)] [] 0).opt r_i64x2_bool.dec = window_Place.f a0_0 a0_1 a0_2 a0_3 a0_4 a0_5 a0_6 a0_7 a0_8 a0_9 a0_10 a0_11 a0_12 a0_13 a0_14 a0_15 a1 := by kernel_rfl
  exact calls_of named mixed t_window_Judge_ok.ct noL_ok ht h (by kernel_rfl) (by kernel_rfl) w fun _ _ _ _ _ hd hx => r_i64x2_bool.ok hd hx
noncomputable def window_Place.c : Entry := fun args _ _ => g_i64x16 args fun a0_0 a0_1 a0_2 a0_3 a0_4 a0_5 a0_6 a0_7 a0_8 a0_9 a0_10 a0_11 a0_12 a0_13 a0_14 a0_15 args => aI .i64 args fun a1 args => aN args (some { o := window_Place.f a0_0 a0_1 a0_2 a0_3 a0_4 a0_5 a0_6 a0_7 a0_8 a0_9 a0_10 a0_11 a0_12 a0_13 a0_14 a0_15 a1, enc := r_i64x2_bool.enc })
theorem window_Place.ok : EntryOK Try.prog 14 window_Place.c := by
  intro args H hn c h _ r hr ρ w xs hx hrel
  unfold window_Place.c at h
  obtain ⟨a0_0, a0_1, a0_2, a0_3, a0_4, a0_5, a0_6, a0_7, a0_8, a0_9, a0_10, a0_11, a0_12, a0_13, a0_14, a0_15, xs, args, rfl, hx, h⟩ := g_i64x16_ok h hx
  obtain ⟨a1, xs, args, rfl, hx, h⟩ := aI_ok h hx
  obtain ⟨rfl, h⟩ := aN_ok h hx
  cases h
  obtain ⟨r1, r2, r3⟩ := r
  refine (window_Place.calls a0_0 a0_1 a0_2 a0_3 a0_4 a0_5 a0_6 a0_7 a0_8 a0_9 a0_10 a0_11 a0_12 a0_13 a0_14 a0_15 a1 r1 r2 r3 w hr).mono ?_
  rintro e w' ⟨rfl, hb⟩
  exact ⟨_, ρ, rfl, r_i64x2_bool.enc_rel ρ (r1, r2, r3), ⟨rfl, hrel.below hb⟩, Eff.of_below hb⟩
noncomputable def t_window_Place : List (Nat × Entry) := (14, window_Place.c) :: t_window_Judge
theorem t_window_Place_ok : TabOK Try.prog t_window_Place := TabOK.cons window_Place.ok t_window_Judge_ok
noncomputable abbrev tab_S1 : List (Nat × Entry) := t_window_Place
theorem tab_S1_ok : TabOK Try.prog tab_S1 := t_window_Place_ok
end
end Go.Proofs.Ytlekjgjhbanimaa.S
