/- Contracts by the symbolic walk: window_may, window_Judge, window_Place. -/
import Derived.Test.YtlekjgjhbanimaaProg
import Derived.Test.YtlekjgjhbanimaaSXk
import Derived.Test.YtlekjgjhbanimaaS0
namespace Go.Proofs.Ytlekjgjhbanimaa.S
open Go Go.RowKit Go.Proofs.Ytlekjgjhbanimaa.SX Go.Proofs
set_option linter.unusedVariables false
noncomputable section
def window_may.f (a0 : Int) : Option Bool :=
  (if a0 ≥ -4294967296 then some (decide (a0 ≤ 1152921504606846976)) else some false)
set_option maxRecDepth 100000 in
theorem window_may.calls (a0 : Int) (r : Bool) (w : World) (h : window_may.f a0 = some r) :
    Calls Try.prog 23 #[.int .i64 a0] w fun e w' => e = .returned (.bool r) ∧ Below w.heap.size w w' := by
  have ht : (walk Try.prog (ctOf tab_S0) noL 100000 23 [.int .i64 (.s a0)] [] 0).opt r_bool.dec = window_may.f a0 := by kernel_rfl
  exact calls_of named mixed tab_S0_ok.ct noL_ok ht h (by kernel_rfl) (by kernel_rfl) w fun _ _ _ _ _ hd hx => r_bool.ok hd hx
noncomputable def window_may.c : Entry := fun args _ => aI .i64 args fun a0 args => aN args (some { o := window_may.f a0, enc := r_bool.enc })
theorem window_may.ok : EntryOK Try.prog 23 window_may.c := by
  intro args H c h r hr ρ hn w xs hx hrel
  unfold window_may.c at h
  obtain ⟨a0, xs, args, rfl, hx, h⟩ := aI_ok h hx
  obtain ⟨rfl, h⟩ := aN_ok h hx
  cases h
  refine (window_may.calls a0 r w hr).mono ?_
  rintro e w' ⟨rfl, hb⟩
  exact ⟨_, rfl, r_bool.enc_rel ρ r, hrel.below hb, Eff.of_below hb⟩
noncomputable def t_window_may : List (Nat × Entry) := (23, window_may.c) :: tab_S0
theorem t_window_may_ok : TabOK Try.prog t_window_may := TabOK.cons window_may.ok tab_S0_ok
def r_i64_i64_i64.dec : AV → Heap → Nat → Option (Int × Int × Int)
  | .tup [x0, x1, x2], _, _ => (dI .i64 x0).bind fun n0 => (dI .i64 x1).bind fun n1 => (dI .i64 x2).bind fun n2 => some (n0, n1, n2)
  | _, _, _ => none
def r_i64_i64_i64.enc (r : Int × Int × Int) : AV := .tup [.int .i64 (.s r.1), .int .i64 (.s r.2.1), .int .i64 (.s r.2.2)]
abbrev r_i64_i64_i64.val (r : Int × Int × Int) : Value := .tuple #[.int .i64 r.1, .int .i64 r.2.1, .int .i64 r.2.2]
theorem r_i64_i64_i64.enc_rel (ρ : Pl) (r : Int × Int × Int) : (r_i64_i64_i64.enc r).rel ρ (r_i64_i64_i64.val r) := AV.flat_rel _ rfl
theorem r_i64_i64_i64.ok {v : AV} {H : Heap} {hn : Nat} {r : Int × Int × Int} {ρ : Pl} {x : Value} (h : r_i64_i64_i64.dec v H hn = some r) (hx : v.rel ρ x) : x = r_i64_i64_i64.val r := by
  unfold r_i64_i64_i64.dec at h
  split at h
  · obtain ⟨n0, e0, h⟩ := Option.bind_eq_some_iff.1 h
    obtain ⟨n1, e1, h⟩ := Option.bind_eq_some_iff.1 h
    obtain ⟨n2, e2, h⟩ := Option.bind_eq_some_iff.1 h
    cases h
    obtain ⟨z, hx, rfl⟩ := hx
    obtain ⟨y1, y2, hy1, hx, rfl⟩ := hx
    obtain rfl := dI_ok e0 hy1
    obtain ⟨y3, y4, hy3, hx, rfl⟩ := hx
    obtain rfl := dI_ok e1 hy3
    obtain ⟨y5, y6, hy5, hx, rfl⟩ := hx
    obtain rfl := dI_ok e2 hy5
    obtain rfl := (show _ = [] from hx)
    rfl
  · cases h
def window_Judge.f (a0_0 : Int) (a0_1 : Int) (a0_2 : Int) (a0_3 : Int) (a0_4 : Int) (a0_5 : Int) (a0_6 : Int) (a0_7 : Int) (a0_8 : Int) (a0_9 : Int) (a0_10 : Int) (a0_11 : Int) (a0_12 : Int) (a0_13 : Int) (a0_14 : Int) (a0_15 : Int) (a1_0 : Int) (a1_1 : Int) (a2 : Int) : Option (Int × Int × Int) :=
  ((table_Expected.f a0_0 a0_1 a0_2 a0_3 a0_4 a0_5 a0_6 a0_7 a0_8 a0_9 a0_10 a0_11 a0_12 a0_13 a0_14 a0_15 a1_0 a1_1).bind fun t0 => (if t0.snd.snd.snd ≠ 0 then some (0, 0, 160) else ((window_may.f a2).bind fun t1 => (if (!t1) = true then some (0, 0, 160) else (if a2 < t0.snd.fst then some (1, wrap64 (a2 - t0.fst), 0) else (if a2 > t0.snd.snd.fst then some (3, wrap64 (a2 - t0.fst), 0) else some (2, wrap64 (a2 - t0.fst), 0)))))))
set_option maxRecDepth 100000 in
theorem window_Judge.calls (a0_0 : Int) (a0_1 : Int) (a0_2 : Int) (a0_3 : Int) (a0_4 : Int) (a0_5 : Int) (a0_6 : Int) (a0_7 : Int) (a0_8 : Int) (a0_9 : Int) (a0_10 : Int) (a0_11 : Int) (a0_12 : Int) (a0_13 : Int) (a0_14 : Int) (a0_15 : Int) (a1_0 : Int) (a1_1 : Int) (a2 : Int) (r1 : Int) (r2 : Int) (r3 : Int) (w : World) (h : window_Judge.f a0_0 a0_1 a0_2 a0_3 a0_4 a0_5 a0_6 a0_7 a0_8 a0_9 a0_10 a0_11 a0_12 a0_13 a0_14 a0_15 a1_0 a1_1 a2 = some (r1, r2, r3)) :
    Calls Try.prog 9 #[.agg #[.int .i64 a0_0, .int .i64 a0_1, .int .i64 a0_2, .int .i64 a0_3, .int .i64 a0_4, .int .i64 a0_5, .int .i64 a0_6, .int .i64 a0_7, .int .i64 a0_8, .int .i64 a0_9, .int .i64 a0_10, .int .i64 a0_11, .int .i64 a0_12, .int .i64 a0_13, .int .i64 a0_14, .int .i64 a0_15], .agg #[.int .i64 a1_0, .int .i64 a1_1], .int .i64 a2] w fun e w' => e = .returned (.tuple #[.int .i64 r1, .int .i64 r2, .int .i64 r3]) ∧ Below w.heap.size w w' := by
  have ht : ((walk Try.prog (ctOf t_window_may) noL 100000 9 [.agg [.int .i64 (.s a0_0), .int .i64 (.s a0_1), .int .i64 (.s a0_2), .int .i64 (.s a0_3), .int .i64 (.s a0_4), .int .i64 (.s a0_5), .int .i64 (.s a0_6), .int .i64 (.s a0_7), .int .i64 (.s a0_8), .int .i64 (.s a0_9), .int .i64 (.s a0_10), .int .i64 (.s a0_11), .int .i64 (.s a0_12), .int .i64 (.s a0_13), .int .i64 (.s a0_14), .int .i64 (.s a0_15)], .agg [.int .i64 (.s a1_0), .int .i64 (.s a1_1)], .int .i64 (.s a2)] [] 0).strip).opt r_i64_i64_i64.dec = window_Judge.f a0_0 a0_1 a0_2 a0_3 a0_4 a0_5 a0_6 a0_7 a0_8 a0_9 a0_10 a0_11 a0_12 a0_13 a0_14 a0_15 a1_0 a1_1 a2 := by kernel_rfl
  have hs : (walk Try.prog (ctOf t_window_may) noL 100000 9 [.agg [.int .i64 (.s a0_0), .int .i64 (.s a0_1), .int .i64 (.s a0_2), .int .i64 (.s a0_3), .int .i64 (.s a0_4), .int .i64 (.s a0_5), .int .i64 (.s a0_6), .int .i64 (.s a0_7), .int .i64 (.s a0_8), .int .i64 (.s a0_9), .int .i64 (.s a0_10), .int .i64 (.s a0_11), .int .i64 (.s a0_12), .int .i64 (.s a0_13), .int .i64 (.s a0_14), .int .i64 (.s a0_15)], .agg [.int .i64 (.s a1_0), .int .i64 (.s a1_1)], .int .i64 (.s a2)] [] 0).fixed = walk Try.prog (ctOf t_window_may) noL 100000 9 [.agg [.int .i64 (.s a0_0), .int .i64 (.s a0_1), .int .i64 (.s a0_2), .int .i64 (.s a0_3), .int .i64 (.s a0_4), .int .i64 (.s a0_5), .int .i64 (.s a0_6), .int .i64 (.s a0_7), .int .i64 (.s a0_8), .int .i64 (.s a0_9), .int .i64 (.s a0_10), .int .i64 (.s a0_11), .int .i64 (.s a0_12), .int .i64 (.s a0_13), .int .i64 (.s a0_14), .int .i64 (.s a0_15)], .agg [.int .i64 (.s a1_0), .int .i64 (.s a1_1)], .int .i64 (.s a2)] [] 0 := by kernel_rfl
  exact calls_of' named mixed t_window_may_ok.ct noL_ok hs ht h (by kernel_rfl) (by kernel_rfl) w fun _ _ _ _ _ hd hx => r_i64_i64_i64.ok hd hx
noncomputable def window_Judge.c : Entry := fun args _ => g_i64x16 args fun a0_0 a0_1 a0_2 a0_3 a0_4 a0_5 a0_6 a0_7 a0_8 a0_9 a0_10 a0_11 a0_12 a0_13 a0_14 a0_15 args => g_i64x2 args fun a1_0 a1_1 args => aI .i64 args fun a2 args => aN args (some { o := window_Judge.f a0_0 a0_1 a0_2 a0_3 a0_4 a0_5 a0_6 a0_7 a0_8 a0_9 a0_10 a0_11 a0_12 a0_13 a0_14 a0_15 a1_0 a1_1 a2, enc := r_i64_i64_i64.enc })
theorem window_Judge.ok : EntryOK Try.prog 9 window_Judge.c := by
  intro args H c h r hr ρ hn w xs hx hrel
  unfold window_Judge.c at h
  obtain ⟨a0_0, a0_1, a0_2, a0_3, a0_4, a0_5, a0_6, a0_7, a0_8, a0_9, a0_10, a0_11, a0_12, a0_13, a0_14, a0_15, xs, args, rfl, hx, h⟩ := g_i64x16_ok h hx
  obtain ⟨a1_0, a1_1, xs, args, rfl, hx, h⟩ := g_i64x2_ok h hx
  obtain ⟨a2, xs, args, rfl, hx, h⟩ := aI_ok h hx
  obtain ⟨rfl, h⟩ := aN_ok h hx
  cases h
  obtain ⟨r1, r2, r3⟩ := r
  refine (window_Judge.calls a0_0 a0_1 a0_2 a0_3 a0_4 a0_5 a0_6 a0_7 a0_8 a0_9 a0_10 a0_11 a0_12 a0_13 a0_14 a0_15 a1_0 a1_1 a2 r1 r2 r3 w hr).mono ?_
  rintro e w' ⟨rfl, hb⟩
  exact ⟨_, rfl, r_i64_i64_i64.enc_rel ρ (r1, r2, r3), hrel.below hb, Eff.of_below hb⟩
noncomputable def t_window_Judge : List (Nat × Entry) := (9, window_Judge.c) :: t_window_may
theorem t_window_Judge_ok : TabOK Try.prog t_window_Judge := TabOK.cons window_Judge.ok t_window_may_ok
def r_i64x2_bool.dec : AV → Heap → Nat → Option (Int × Int × Bool)
  | .tup [.agg [x0, x1], x2], _, _ => (dI .i64 x0).bind fun n0 => (dI .i64 x1).bind fun n1 => (dB x2).bind fun n2 => some (n0, n1, n2)
  | _, _, _ => none
def r_i64x2_bool.enc (r : Int × Int × Bool) : AV := .tup [.agg [.int .i64 (.s r.1), .int .i64 (.s r.2.1)], .bool (.s r.2.2)]
abbrev r_i64x2_bool.val (r : Int × Int × Bool) : Value := .tuple #[.agg #[.int .i64 r.1, .int .i64 r.2.1], .bool r.2.2]
theorem r_i64x2_bool.enc_rel (ρ : Pl) (r : Int × Int × Bool) : (r_i64x2_bool.enc r).rel ρ (r_i64x2_bool.val r) := AV.flat_rel _ rfl
theorem r_i64x2_bool.ok {v : AV} {H : Heap} {hn : Nat} {r : Int × Int × Bool} {ρ : Pl} {x : Value} (h : r_i64x2_bool.dec v H hn = some r) (hx : v.rel ρ x) : x = r_i64x2_bool.val r := by
  unfold r_i64x2_bool.dec at h
  split at h
  · obtain ⟨n0, e0, h⟩ := Option.bind_eq_some_iff.1 h
    obtain ⟨n1, e1, h⟩ := Option.bind_eq_some_iff.1 h
    obtain ⟨n2, e2, h⟩ := Option.bind_eq_some_iff.1 h
    cases h
    obtain ⟨z, hx, rfl⟩ := hx
    obtain ⟨y1, y2, hy1, hx, rfl⟩ := hx
    obtain ⟨y3, hy1, rfl⟩ := hy1
    obtain ⟨y4, y5, hy4, hy1, rfl⟩ := hy1
    obtain rfl := dI_ok e0 hy4
    obtain ⟨y6, y7, hy6, hy1, rfl⟩ := hy1
    obtain rfl := dI_ok e1 hy6
    obtain rfl := (show _ = [] from hy1)
    obtain ⟨y8, y9, hy8, hx, rfl⟩ := hx
    obtain rfl := dB_ok e2 hy8
    obtain rfl := (show _ = [] from hx)
    rfl
  · cases h
def window_Place.f (a0_0 : Int) (a0_1 : Int) (a0_2 : Int) (a0_3 : Int) (a0_4 : Int) (a0_5 : Int) (a0_6 : Int) (a0_7 : Int) (a0_8 : Int) (a0_9 : Int) (a0_10 : Int) (a0_11 : Int) (a0_12 : Int) (a0_13 : Int) (a0_14 : Int) (a0_15 : Int) (a1 : Int) : Option (Int × Int × Bool) :=
  ((table_Of.f a0_0 a0_1 a0_2 a0_3 a0_4 a0_5 a0_6 a0_7 a0_8 a0_9 a0_10 a0_11 a0_12 a0_13 a0_14 a0_15 a1).bind fun t0 => (if t0.snd.snd ≠ 0 then some (0, 0, false) else ((window_Judge.f a0_0 a0_1 a0_2 a0_3 a0_4 a0_5 a0_6 a0_7 a0_8 a0_9 a0_10 a0_11 a0_12 a0_13 a0_14 a0_15 t0.fst t0.snd.fst a1).bind fun t1 => (if t1.snd.snd ≠ 0 then some (0, 0, false) else (if t1.fst ≠ 2 then some (0, 0, false) else some (t0.fst, t0.snd.fst, true))))))
set_option maxRecDepth 100000 in
theorem window_Place.calls (a0_0 : Int) (a0_1 : Int) (a0_2 : Int) (a0_3 : Int) (a0_4 : Int) (a0_5 : Int) (a0_6 : Int) (a0_7 : Int) (a0_8 : Int) (a0_9 : Int) (a0_10 : Int) (a0_11 : Int) (a0_12 : Int) (a0_13 : Int) (a0_14 : Int) (a0_15 : Int) (a1 : Int) (r1 : Int) (r2 : Int) (r3 : Bool) (w : World) (h : window_Place.f a0_0 a0_1 a0_2 a0_3 a0_4 a0_5 a0_6 a0_7 a0_8 a0_9 a0_10 a0_11 a0_12 a0_13 a0_14 a0_15 a1 = some (r1, r2, r3)) :
    Calls Try.prog 14 #[.agg #[.int .i64 a0_0, .int .i64 a0_1, .int .i64 a0_2, .int .i64 a0_3, .int .i64 a0_4, .int .i64 a0_5, .int .i64 a0_6, .int .i64 a0_7, .int .i64 a0_8, .int .i64 a0_9, .int .i64 a0_10, .int .i64 a0_11, .int .i64 a0_12, .int .i64 a0_13, .int .i64 a0_14, .int .i64 a0_15], .int .i64 a1] w fun e w' => e = .returned (.tuple #[.agg #[.int .i64 r1, .int .i64 r2], .bool r3]) ∧ Below w.heap.size w w' := by
  have ht : (walk Try.prog (ctOf t_window_Judge) noL 100000 14 [.agg [.int .i64 (.s a0_0), .int .i64 (.s a0_1), .int .i64 (.s a0_2), .int .i64 (.s a0_3), .int .i64 (.s a0_4), .int .i64 (.s a0_5), .int .i64 (.s a0_6), .int .i64 (.s a0_7), .int .i64 (.s a0_8), .int .i64 (.s a0_9), .int .i64 (.s a0_10), .int .i64 (.s a0_11), .int .i64 (.s a0_12), .int .i64 (.s a0_13), .int .i64 (.s a0_14), .int .i64 (.s a0_15)], .int .i64 (.s a1)] [] 0).opt r_i64x2_bool.dec = window_Place.f a0_0 a0_1 a0_2 a0_3 a0_4 a0_5 a0_6 a0_7 a0_8 a0_9 a0_10 a0_11 a0_12 a0_13 a0_14 a0_15 a1 := by kernel_rfl
  exact calls_of named mixed t_window_Judge_ok.ct noL_ok ht h (by kernel_rfl) (by kernel_rfl) w fun _ _ _ _ _ hd hx => r_i64x2_bool.ok hd hx
noncomputable def window_Place.c : Entry := fun args _ => g_i64x16 args fun a0_0 a0_1 a0_2 a0_3 a0_4 a0_5 a0_6 a0_7 a0_8 a0_9 a0_10 a0_11 a0_12 a0_13 a0_14 a0_15 args => aI .i64 args fun a1 args => aN args (some { o := window_Place.f a0_0 a0_1 a0_2 a0_3 a0_4 a0_5 a0_6 a0_7 a0_8 a0_9 a0_10 a0_11 a0_12 a0_13 a0_14 a0_15 a1, enc := r_i64x2_bool.enc })
theorem window_Place.ok : EntryOK Try.prog 14 window_Place.c := by
  intro args H c h r hr ρ hn w xs hx hrel
  unfold window_Place.c at h
  obtain ⟨a0_0, a0_1, a0_2, a0_3, a0_4, a0_5, a0_6, a0_7, a0_8, a0_9, a0_10, a0_11, a0_12, a0_13, a0_14, a0_15, xs, args, rfl, hx, h⟩ := g_i64x16_ok h hx
  obtain ⟨a1, xs, args, rfl, hx, h⟩ := aI_ok h hx
  obtain ⟨rfl, h⟩ := aN_ok h hx
  cases h
  obtain ⟨r1, r2, r3⟩ := r
  refine (window_Place.calls a0_0 a0_1 a0_2 a0_3 a0_4 a0_5 a0_6 a0_7 a0_8 a0_9 a0_10 a0_11 a0_12 a0_13 a0_14 a0_15 a1 r1 r2 r3 w hr).mono ?_
  rintro e w' ⟨rfl, hb⟩
  exact ⟨_, rfl, r_i64x2_bool.enc_rel ρ (r1, r2, r3), hrel.below hb, Eff.of_below hb⟩
noncomputable def t_window_Place : List (Nat × Entry) := (14, window_Place.c) :: t_window_Judge
theorem t_window_Place_ok : TabOK Try.prog t_window_Place := TabOK.cons window_Place.ok t_window_Judge_ok
noncomputable abbrev tab_S1 : List (Nat × Entry) := t_window_Place
theorem tab_S1_ok : TabOK Try.prog tab_S1 := t_window_Place_ok
end
end Go.Proofs.Ytlekjgjhbanimaa.S
