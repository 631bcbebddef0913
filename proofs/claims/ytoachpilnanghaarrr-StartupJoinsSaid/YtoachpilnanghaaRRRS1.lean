/- Contracts by the symbolic walk: startup_time, startup_Check, startup_listen, startup_Listen, startup_Due, startup_Time, startup_Join, vespersref07_numbers, vespersref07_first, vespersref07_Fails, vespersref07_Check, vespersref21_Check. -/
import Derived.Test.YtoachpilnanghaaRRRProg
import Derived.Test.YtoachpilnanghaaRRRSXj
import Derived.Test.YtoachpilnanghaaRRRS0
namespace Go.Proofs.YtoachpilnanghaaRRR.S
open Go Go.RowKit Go.Proofs.YtoachpilnanghaaRRR.SX Go.Proofs
set_option linter.unusedVariables false
def startup_time.f (a0 : Int) : Option Bool :=
  (if a0 ≥ 0 then some (decide (a0 ≤ 4294967296)) else some false)
set_option maxRecDepth 100000 in
theorem startup_time.calls (a0 : Int) (r : Bool) (w : World) (h : startup_time.f a0 = some r) :
    Calls Try.prog 18 #[.int .i64 a0] w fun e w' => e = .returned (.bool r) ∧ Below w.heap.size w w' := by
  have ht : (walk Try.prog (ctOf tab_S0) noL 100000 18 [.int .i64 (.s a0)] [] 0).opt r_bool.dec = startup_time.f a0 := by kernel_rfl
  exact calls_of named mixed tab_S0_ok.ct noL_ok ht h (by kernel_rfl) (by kernel_rfl) w fun _ _ _ _ _ hd hx => r_bool.ok hd hx
noncomputable def startup_time.c : Entry := fun args _ => aI .i64 args fun a0 args => aN args (some { o := startup_time.f a0, enc := r_bool.enc })
theorem startup_time.ok : EntryOK Try.prog 18 startup_time.c := by
  intro args H c h r hr ρ hn w xs hx hrel
  unfold startup_time.c at h
  obtain ⟨a0, xs, args, rfl, hx, h⟩ := aI_ok h hx
  obtain ⟨rfl, h⟩ := aN_ok h hx
  cases h
  refine (startup_time.calls a0 r w hr).mono ?_
  rintro e w' ⟨rfl, hb⟩
  exact ⟨_, rfl, r_bool.enc_rel ρ r, hrel.below hb, Eff.of_below hb⟩
noncomputable def t_startup_time : List (Nat × Entry) := (18, startup_time.c) :: tab_S0
theorem t_startup_time_ok : TabOK Try.prog t_startup_time := TabOK.cons startup_time.ok tab_S0_ok
def g_i64x4booli64 (args : List AV) (f : Int → Int → Int → Int → Bool → Int → List AV → Option Con) : Option Con := aG args fun l r => aI .i64 l fun x0 l => aI .i64 l fun x1 l => aI .i64 l fun x2 l => aI .i64 l fun x3 l => aB l fun x4 l => aI .i64 l fun x5 l => aN l (f x0 x1 x2 x3 x4 x5 r)
theorem g_i64x4booli64_ok {ρ : Pl} {args : List AV} {xs : List Value} {c : Con} {f : Int → Int → Int → Int → Bool → Int → List AV → Option Con} (h : g_i64x4booli64 args f = some c) (hx : AV.relL ρ args xs) :
    ∃ x0 x1 x2 x3 x4 x5 xs' l, xs = .agg #[.int .i64 x0, .int .i64 x1, .int .i64 x2, .int .i64 x3, .bool x4, .int .i64 x5] :: xs' ∧ AV.relL ρ l xs' ∧ f x0 x1 x2 x3 x4 x5 l = some c := by
  unfold g_i64x4booli64 at h
  obtain ⟨vs, xs', l, r, rfl, hl, hr, h⟩ := aG_ok h hx
  clear hx
  obtain ⟨x0, vs, l, rfl, hl, h⟩ := aI_ok h hl
  obtain ⟨x1, vs, l, rfl, hl, h⟩ := aI_ok h hl
  obtain ⟨x2, vs, l, rfl, hl, h⟩ := aI_ok h hl
  obtain ⟨x3, vs, l, rfl, hl, h⟩ := aI_ok h hl
  obtain ⟨x4, vs, l, rfl, hl, h⟩ := aB_ok h hl
  obtain ⟨x5, vs, l, rfl, hl, h⟩ := aI_ok h hl
  obtain ⟨rfl, h⟩ := aN_ok h hl
  exact ⟨x0, x1, x2, x3, x4, x5, xs', r, rfl, hr, h⟩
def startup_Check.f (a0_0 : Int) (a0_1 : Int) (a0_2 : Int) (a0_3 : Int) (a0_4 : Int) (a0_5 : Int) (a0_6 : Int) (a0_7 : Int) (a0_8 : Int) (a0_9 : Int) (a0_10 : Int) (a0_11 : Int) (a0_12 : Int) (a0_13 : Int) (a0_14 : Int) (a0_15 : Int) (a1_0 : Int) (a1_1 : Int) (a1_2 : Int) (a1_3 : Int) (a1_4 : Bool) (a1_5 : Int) : Option Int :=
  ((plan_Check.f a0_0 a0_1 a0_2 a0_3 a0_4 a0_5 a0_6 a0_7 a0_8 a0_9 a0_10 a0_11 a0_12 a0_13 a0_14 a0_15).bind fun t0 => (if t0 = 0 then (if a1_0 ≥ 0 then (if a1_0 < a0_0 then ((startup_time.f a1_2).bind fun t1 => (if t1 = true then ((startup_time.f a1_3).bind fun t2 => (if t2 = true then (if a1_4 = true then (if a1_1 = 2 then (if (!decide (a1_5 = 0)) = true then some 210 else some 0) else (if a1_1 = 3 then (if a1_5 ≥ 1 then (if a1_5 ≤ 3 then (if (!!a1_4) = true then some 210 else some 0) else some 210) else some 210) else some 210)) else (if a1_1 = 2 then (if a1_3 = 0 then (if (!decide (a1_5 = 0)) = true then some 210 else some 0) else some 210) else (if a1_1 = 3 then (if a1_3 = 0 then (if a1_5 ≥ 1 then (if a1_5 ≤ 3 then (if (!!a1_4) = true then some 210 else some 0) else some 210) else some 210) else some 210) else some 210))) else (if a1_1 = 2 then some 210 else (if a1_1 = 3 then some 210 else some 210)))) else (if a1_1 = 2 then some 210 else (if a1_1 = 3 then some 210 else some 210)))) else (if a1_1 = 2 then some 210 else (if a1_1 = 3 then some 210 else some 210))) else (if a1_1 = 2 then some 210 else (if a1_1 = 3 then some 210 else some 210))) else (if a1_1 = 2 then some 210 else (if a1_1 = 3 then some 210 else some 210))))
set_option maxRecDepth 100000 in
theorem startup_Check.calls (a0_0 : Int) (a0_1 : Int) (a0_2 : Int) (a0_3 : Int) (a0_4 : Int) (a0_5 : Int) (a0_6 : Int) (a0_7 : Int) (a0_8 : Int) (a0_9 : Int) (a0_10 : Int) (a0_11 : Int) (a0_12 : Int) (a0_13 : Int) (a0_14 : Int) (a0_15 : Int) (a1_0 : Int) (a1_1 : Int) (a1_2 : Int) (a1_3 : Int) (a1_4 : Bool) (a1_5 : Int) (r : Int) (w : World) (h : startup_Check.f a0_0 a0_1 a0_2 a0_3 a0_4 a0_5 a0_6 a0_7 a0_8 a0_9 a0_10 a0_11 a0_12 a0_13 a0_14 a0_15 a1_0 a1_1 a1_2 a1_3 a1_4 a1_5 = some r) :
    Calls Try.prog 8 #[.agg #[.int .i64 a0_0, .int .i64 a0_1, .int .i64 a0_2, .int .i64 a0_3, .int .i64 a0_4, .int .i64 a0_5, .int .i64 a0_6, .int .i64 a0_7, .int .i64 a0_8, .int .i64 a0_9, .int .i64 a0_10, .int .i64 a0_11, .int .i64 a0_12, .int .i64 a0_13, .int .i64 a0_14, .int .i64 a0_15], .agg #[.int .i64 a1_0, .int .i64 a1_1, .int .i64 a1_2, .int .i64 a1_3, .bool a1_4, .int .i64 a1_5]] w fun e w' => e = .returned (.int .i64 r) ∧ Below w.heap.size w w' := by
  have ht : (walk Try.prog (ctOf t_startup_time) noL 100000 8 [.agg [.int .i64 (.s a0_0), .int .i64 (.s a0_1), .int .i64 (.s a0_2), .int .i64 (.s a0_3), .int .i64 (.s a0_4), .int .i64 (.s a0_5), .int .i64 (.s a0_6), .int .i64 (.s a0_7), .int .i64 (.s a0_8), .int .i64 (.s a0_9), .int .i64 (.s a0_10), .int .i64 (.s a0_11), .int .i64 (.s a0_12), .int .i64 (.s a0_13), .int .i64 (.s a0_14), .int .i64 (.s a0_15)], .agg [.int .i64 (.s a1_0), .int .i64 (.s a1_1), .int .i64 (.s a1_2), .int .i64 (.s a1_3), .bool (.s a1_4), .int .i64 (.s a1_5)]] [] 0).opt r_i64.dec = startup_Check.f a0_0 a0_1 a0_2 a0_3 a0_4 a0_5 a0_6 a0_7 a0_8 a0_9 a0_10 a0_11 a0_12 a0_13 a0_14 a0_15 a1_0 a1_1 a1_2 a1_3 a1_4 a1_5 := by kernel_rfl
  exact calls_of named mixed t_startup_time_ok.ct noL_ok ht h (by kernel_rfl) (by kernel_rfl) w fun _ _ _ _ _ hd hx => r_i64.ok hd hx
noncomputable def startup_Check.c : Entry := fun args _ => g_i64x16 args fun a0_0 a0_1 a0_2 a0_3 a0_4 a0_5 a0_6 a0_7 a0_8 a0_9 a0_10 a0_11 a0_12 a0_13 a0_14 a0_15 args => g_i64x4booli64 args fun a1_0 a1_1 a1_2 a1_3 a1_4 a1_5 args => aN args (some { o := startup_Check.f a0_0 a0_1 a0_2 a0_3 a0_4 a0_5 a0_6 a0_7 a0_8 a0_9 a0_10 a0_11 a0_12 a0_13 a0_14 a0_15 a1_0 a1_1 a1_2 a1_3 a1_4 a1_5, enc := r_i64.enc })
theorem startup_Check.ok : EntryOK Try.prog 8 startup_Check.c := by
  intro args H c h r hr ρ hn w xs hx hrel
  unfold startup_Check.c at h
  obtain ⟨a0_0, a0_1, a0_2, a0_3, a0_4, a0_5, a0_6, a0_7, a0_8, a0_9, a0_10, a0_11, a0_12, a0_13, a0_14, a0_15, xs, args, rfl, hx, h⟩ := g_i64x16_ok h hx
  obtain ⟨a1_0, a1_1, a1_2, a1_3, a1_4, a1_5, xs, args, rfl, hx, h⟩ := g_i64x4booli64_ok h hx
  obtain ⟨rfl, h⟩ := aN_ok h hx
  cases h
  refine (startup_Check.calls a0_0 a0_1 a0_2 a0_3 a0_4 a0_5 a0_6 a0_7 a0_8 a0_9 a0_10 a0_11 a0_12 a0_13 a0_14 a0_15 a1_0 a1_1 a1_2 a1_3 a1_4 a1_5 r w hr).mono ?_
  rintro e w' ⟨rfl, hb⟩
  exact ⟨_, rfl, r_i64.enc_rel ρ r, hrel.below hb, Eff.of_below hb⟩
noncomputable def t_startup_Check : List (Nat × Entry) := (8, startup_Check.c) :: t_startup_time
theorem t_startup_Check_ok : TabOK Try.prog t_startup_Check := TabOK.cons startup_Check.ok t_startup_time_ok
def r_i64x4booli64.dec : AV → Heap → Nat → Option (Int × Int × Int × Int × Bool × Int)
  | .agg [x0, x1, x2, x3, x4, x5], _, _ => (dI .i64 x0).bind fun n0 => (dI .i64 x1).bind fun n1 => (dI .i64 x2).bind fun n2 => (dI .i64 x3).bind fun n3 => (dB x4).bind fun n4 => (dI .i64 x5).bind fun n5 => some (n0, n1, n2, n3, n4, n5)
  | _, _, _ => none
def r_i64x4booli64.enc (r : Int × Int × Int × Int × Bool × Int) : AV := .agg [.int .i64 (.s r.1), .int .i64 (.s r.2.1), .int .i64 (.s r.2.2.1), .int .i64 (.s r.2.2.2.1), .bool (.s r.2.2.2.2.1), .int .i64 (.s r.2.2.2.2.2)]
abbrev r_i64x4booli64.val (r : Int × Int × Int × Int × Bool × Int) : Value := .agg #[.int .i64 r.1, .int .i64 r.2.1, .int .i64 r.2.2.1, .int .i64 r.2.2.2.1, .bool r.2.2.2.2.1, .int .i64 r.2.2.2.2.2]
theorem r_i64x4booli64.enc_rel (ρ : Pl) (r : Int × Int × Int × Int × Bool × Int) : (r_i64x4booli64.enc r).rel ρ (r_i64x4booli64.val r) := AV.flat_rel _ rfl
theorem r_i64x4booli64.ok {v : AV} {H : Heap} {hn : Nat} {r : Int × Int × Int × Int × Bool × Int} {ρ : Pl} {x : Value} (h : r_i64x4booli64.dec v H hn = some r) (hx : v.rel ρ x) : x = r_i64x4booli64.val r := by
  unfold r_i64x4booli64.dec at h
  split at h
  · obtain ⟨n0, e0, h⟩ := Option.bind_eq_some_iff.1 h
    obtain ⟨n1, e1, h⟩ := Option.bind_eq_some_iff.1 h
    obtain ⟨n2, e2, h⟩ := Option.bind_eq_some_iff.1 h
    obtain ⟨n3, e3, h⟩ := Option.bind_eq_some_iff.1 h
    obtain ⟨n4, e4, h⟩ := Option.bind_eq_some_iff.1 h
    obtain ⟨n5, e5, h⟩ := Option.bind_eq_some_iff.1 h
    cases h
    obtain ⟨z, hx, rfl⟩ := hx
    obtain ⟨y1, y2, hy1, hx, rfl⟩ := hx
    obtain rfl := dI_ok e0 hy1
    obtain ⟨y3, y4, hy3, hx, rfl⟩ := hx
    obtain rfl := dI_ok e1 hy3
    obtain ⟨y5, y6, hy5, hx, rfl⟩ := hx
    obtain rfl := dI_ok e2 hy5
    obtain ⟨y7, y8, hy7, hx, rfl⟩ := hx
    obtain rfl := dI_ok e3 hy7
    obtain ⟨y9, y10, hy9, hx, rfl⟩ := hx
    obtain rfl := dB_ok e4 hy9
    obtain ⟨y11, y12, hy11, hx, rfl⟩ := hx
    obtain rfl := dI_ok e5 hy11
    obtain rfl := (show _ = [] from hx)
    rfl
  · cases h
def startup_listen.f (a0_0 : Int) (a0_1 : Int) (a0_2 : Int) (a0_3 : Int) (a0_4 : Bool) (a0_5 : Int) (a1 : Int) (a2 : Bool) : Option (Int × Int × Int × Int × Bool × Int) :=
  (if a2 = true then some (a0_0, 2, a1, a1, a2, 0) else some (a0_0, 2, a1, 0, a2, 0))
set_option maxRecDepth 100000 in
theorem startup_listen.calls (a0_0 : Int) (a0_1 : Int) (a0_2 : Int) (a0_3 : Int) (a0_4 : Bool) (a0_5 : Int) (a1 : Int) (a2 : Bool) (r1 : Int) (r2 : Int) (r3 : Int) (r4 : Int) (r5 : Bool) (r6 : Int) (w : World) (h : startup_listen.f a0_0 a0_1 a0_2 a0_3 a0_4 a0_5 a1 a2 = some (r1, r2, r3, r4, r5, r6)) :
    Calls Try.prog 16 #[.agg #[.int .i64 a0_0, .int .i64 a0_1, .int .i64 a0_2, .int .i64 a0_3, .bool a0_4, .int .i64 a0_5], .int .i64 a1, .bool a2] w fun e w' => e = .returned (.agg #[.int .i64 r1, .int .i64 r2, .int .i64 r3, .int .i64 r4, .bool r5, .int .i64 r6]) ∧ Below w.heap.size w w' := by
  have ht : (walk Try.prog (ctOf t_startup_Check) noL 100000 16 [.agg [.int .i64 (.s a0_0), .int .i64 (.s a0_1), .int .i64 (.s a0_2), .int .i64 (.s a0_3), .bool (.s a0_4), .int .i64 (.s a0_5)], .int .i64 (.s a1), .bool (.s a2)] [] 0).opt r_i64x4booli64.dec = startup_listen.f a0_0 a0_1 a0_2 a0_3 a0_4 a0_5 a1 a2 := by kernel_rfl
  exact calls_of named mixed t_startup_Check_ok.ct noL_ok ht h (by kernel_rfl) (by kernel_rfl) w fun _ _ _ _ _ hd hx => r_i64x4booli64.ok hd hx
noncomputable def startup_listen.c : Entry := fun args _ => g_i64x4booli64 args fun a0_0 a0_1 a0_2 a0_3 a0_4 a0_5 args => aI .i64 args fun a1 args => aB args fun a2 args => aN args (some { o := startup_listen.f a0_0 a0_1 a0_2 a0_3 a0_4 a0_5 a1 a2, enc := r_i64x4booli64.enc })
theorem startup_listen.ok : EntryOK Try.prog 16 startup_listen.c := by
  intro args H c h r hr ρ hn w xs hx hrel
  unfold startup_listen.c at h
  obtain ⟨a0_0, a0_1, a0_2, a0_3, a0_4, a0_5, xs, args, rfl, hx, h⟩ := g_i64x4booli64_ok h hx
  obtain ⟨a1, xs, args, rfl, hx, h⟩ := aI_ok h hx
  obtain ⟨a2, xs, args, rfl, hx, h⟩ := aB_ok h hx
  obtain ⟨rfl, h⟩ := aN_ok h hx
  cases h
  obtain ⟨r1, r2, r3, r4, r5, r6⟩ := r
  refine (startup_listen.calls a0_0 a0_1 a0_2 a0_3 a0_4 a0_5 a1 a2 r1 r2 r3 r4 r5 r6 w hr).mono ?_
  rintro e w' ⟨rfl, hb⟩
  exact ⟨_, rfl, r_i64x4booli64.enc_rel ρ (r1, r2, r3, r4, r5, r6), hrel.below hb, Eff.of_below hb⟩
noncomputable def t_startup_listen : List (Nat × Entry) := (16, startup_listen.c) :: t_startup_Check
theorem t_startup_listen_ok : TabOK Try.prog t_startup_listen := TabOK.cons startup_listen.ok t_startup_Check_ok
def r_i64x4booli64_i64.dec : AV → Heap → Nat → Option (Int × Int × Int × Int × Bool × Int × Int)
  | .tup [.agg [x0, x1, x2, x3, x4, x5], x6], _, _ => (dI .i64 x0).bind fun n0 => (dI .i64 x1).bind fun n1 => (dI .i64 x2).bind fun n2 => (dI .i64 x3).bind fun n3 => (dB x4).bind fun n4 => (dI .i64 x5).bind fun n5 => (dI .i64 x6).bind fun n6 => some (n0, n1, n2, n3, n4, n5, n6)
  | _, _, _ => none
def r_i64x4booli64_i64.enc (r : Int × Int × Int × Int × Bool × Int × Int) : AV := .tup [.agg [.int .i64 (.s r.1), .int .i64 (.s r.2.1), .int .i64 (.s r.2.2.1), .int .i64 (.s r.2.2.2.1), .bool (.s r.2.2.2.2.1), .int .i64 (.s r.2.2.2.2.2.1)], .int .i64 (.s r.2.2.2.2.2.2)]
abbrev r_i64x4booli64_i64.val (r : Int × Int × Int × Int × Bool × Int × Int) : Value := .tuple #[.agg #[.int .i64 r.1, .int .i64 r.2.1, .int .i64 r.2.2.1, .int .i64 r.2.2.2.1, .bool r.2.2.2.2.1, .int .i64 r.2.2.2.2.2.1], .int .i64 r.2.2.2.2.2.2]
theorem r_i64x4booli64_i64.enc_rel (ρ : Pl) (r : Int × Int × Int × Int × Bool × Int × Int) : (r_i64x4booli64_i64.enc r).rel ρ (r_i64x4booli64_i64.val r) := AV.flat_rel _ rfl
theorem r_i64x4booli64_i64.ok {v : AV} {H : Heap} {hn : Nat} {r : Int × Int × Int × Int × Bool × Int × Int} {ρ : Pl} {x : Value} (h : r_i64x4booli64_i64.dec v H hn = some r) (hx : v.rel ρ x) : x = r_i64x4booli64_i64.val r := by
  unfold r_i64x4booli64_i64.dec at h
  split at h
  · obtain ⟨n0, e0, h⟩ := Option.bind_eq_some_iff.1 h
    obtain ⟨n1, e1, h⟩ := Option.bind_eq_some_iff.1 h
    obtain ⟨n2, e2, h⟩ := Option.bind_eq_some_iff.1 h
    obtain ⟨n3, e3, h⟩ := Option.bind_eq_some_iff.1 h
    obtain ⟨n4, e4, h⟩ := Option.bind_eq_some_iff.1 h
    obtain ⟨n5, e5, h⟩ := Option.bind_eq_some_iff.1 h
    obtain ⟨n6, e6, h⟩ := Option.bind_eq_some_iff.1 h
    cases h
    obtain ⟨z, hx, rfl⟩ := hx
    obtain ⟨y1, y2, hy1, hx, rfl⟩ := hx
    obtain ⟨y3, hy1, rfl⟩ := hy1
    obtain ⟨y4, y5, hy4, hy1, rfl⟩ := hy1
    obtain rfl := dI_ok e0 hy4
    obtain ⟨y6, y7, hy6, hy1, rfl⟩ := hy1
    obtain rfl := dI_ok e1 hy6
    obtain ⟨y8, y9, hy8, hy1, rfl⟩ := hy1
    obtain rfl := dI_ok e2 hy8
    obtain ⟨y10, y11, hy10, hy1, rfl⟩ := hy1
    obtain rfl := dI_ok e3 hy10
    obtain ⟨y12, y13, hy12, hy1, rfl⟩ := hy1
    obtain rfl := dB_ok e4 hy12
    obtain ⟨y14, y15, hy14, hy1, rfl⟩ := hy1
    obtain rfl := dI_ok e5 hy14
    obtain rfl := (show _ = [] from hy1)
    obtain ⟨y16, y17, hy16, hx, rfl⟩ := hx
    obtain rfl := dI_ok e6 hy16
    obtain rfl := (show _ = [] from hx)
    rfl
  · cases h
def startup_Listen.f (a0_0 : Int) (a0_1 : Int) (a0_2 : Int) (a0_3 : Int) (a0_4 : Int) (a0_5 : Int) (a0_6 : Int) (a0_7 : Int) (a0_8 : Int) (a0_9 : Int) (a0_10 : Int) (a0_11 : Int) (a0_12 : Int) (a0_13 : Int) (a0_14 : Int) (a0_15 : Int) (a1 : Int) (a2 : Int) : Option (Int × Int × Int × Int × Bool × Int × Int) :=
  ((startup_listen.f a1 0 0 0 false 0 a2 false).bind fun t0 => ((startup_Check.f a0_0 a0_1 a0_2 a0_3 a0_4 a0_5 a0_6 a0_7 a0_8 a0_9 a0_10 a0_11 a0_12 a0_13 a0_14 a0_15 t0.fst t0.snd.fst t0.snd.snd.fst t0.snd.snd.snd.fst t0.snd.snd.snd.snd.fst t0.snd.snd.snd.snd.snd).bind fun t1 => (if t1 ≠ 0 then some (0, 0, 0, 0, false, 0, t1) else some (t0.fst, t0.snd.fst, t0.snd.snd.fst, t0.snd.snd.snd.fst, t0.snd.snd.snd.snd.fst, t0.snd.snd.snd.snd.snd, 0))))
set_option maxRecDepth 100000 in
theorem startup_Listen.calls (a0_0 : Int) (a0_1 : Int) (a0_2 : Int) (a0_3 : Int) (a0_4 : Int) (a0_5 : Int) (a0_6 : Int) (a0_7 : Int) (a0_8 : Int) (a0_9 : Int) (a0_10 : Int) (a0_11 : Int) (a0_12 : Int) (a0_13 : Int) (a0_14 : Int) (a0_15 : Int) (a1 : Int) (a2 : Int) (r1 : Int) (r2 : Int) (r3 : Int) (r4 : Int) (r5 : Bool) (r6 : Int) (r7 : Int) (w : World) (h : startup_Listen.f a0_0 a0_1 a0_2 a0_3 a0_4 a0_5 a0_6 a0_7 a0_8 a0_9 a0_10 a0_11 a0_12 a0_13 a0_14 a0_15 a1 a2 = some (r1, r2, r3, r4, r5, r6, r7)) :
    Calls Try.prog 12 #[.agg #[.int .i64 a0_0, .int .i64 a0_1, .int .i64 a0_2, .int .i64 a0_3, .int .i64 a0_4, .int .i64 a0_5, .int .i64 a0_6, .int .i64 a0_7, .int .i64 a0_8, .int .i64 a0_9, .int .i64 a0_10, .int .i64 a0_11, .int .i64 a0_12, .int .i64 a0_13, .int .i64 a0_14, .int .i64 a0_15], .int .i64 a1, .int .i64 a2] w fun e w' => e = .returned (.tuple #[.agg #[.int .i64 r1, .int .i64 r2, .int .i64 r3, .int .i64 r4, .bool r5, .int .i64 r6], .int .i64 r7]) ∧ Below w.heap.size w w' := by
  have ht : (walk Try.prog (ctOf t_startup_listen) noL 100000 12 [.agg [.int .i64 (.s a0_0), .int .i64 (.s a0_1), .int .i64 (.s a0_2), .int .i64 (.s a0_3), .int .i64 (.s a0_4), .int .i64 (.s a0_5), .int .i64 (.s a0_6), .int .i64 (.s a0_7), .int .i64 (.s a0_8), .int .i64 (.s a0_9), .int .i64 (.s a0_10), .int .i64 (.s a0_11), .int .i64 (.s a0_12), .int .i64 (.s a0_13), .int .i64 (.s a0_14), .int .i64 (.s a0_15)], .int .i64 (.s a1), .int .i64 (.s a2)] [] 0).opt r_i64x4booli64_i64.dec = startup_Listen.f a0_0 a0_1 a0_2 a0_3 a0_4 a0_5 a0_6 a0_7 a0_8 a0_9 a0_10 a0_11 a0_12 a0_13 a0_14 a0_15 a1 a2 := by kernel_rfl
  exact calls_of named mixed t_startup_listen_ok.ct noL_ok ht h (by kernel_rfl) (by kernel_rfl) w fun _ _ _ _ _ hd hx => r_i64x4booli64_i64.ok hd hx
noncomputable def startup_Listen.c : Entry := fun args _ => g_i64x16 args fun a0_0 a0_1 a0_2 a0_3 a0_4 a0_5 a0_6 a0_7 a0_8 a0_9 a0_10 a0_11 a0_12 a0_13 a0_14 a0_15 args => aI .i64 args fun a1 args => aI .i64 args fun a2 args => aN args (some { o := startup_Listen.f a0_0 a0_1 a0_2 a0_3 a0_4 a0_5 a0_6 a0_7 a0_8 a0_9 a0_10 a0_11 a0_12 a0_13 a0_14 a0_15 a1 a2, enc := r_i64x4booli64_i64.enc })
theorem startup_Listen.ok : EntryOK Try.prog 12 startup_Listen.c := by
  intro args H c h r hr ρ hn w xs hx hrel
  unfold startup_Listen.c at h
  obtain ⟨a0_0, a0_1, a0_2, a0_3, a0_4, a0_5, a0_6, a0_7, a0_8, a0_9, a0_10, a0_11, a0_12, a0_13, a0_14, a0_15, xs, args, rfl, hx, h⟩ := g_i64x16_ok h hx
  obtain ⟨a1, xs, args, rfl, hx, h⟩ := aI_ok h hx
  obtain ⟨a2, xs, args, rfl, hx, h⟩ := aI_ok h hx
  obtain ⟨rfl, h⟩ := aN_ok h hx
  cases h
  obtain ⟨r1, r2, r3, r4, r5, r6, r7⟩ := r
  refine (startup_Listen.calls a0_0 a0_1 a0_2 a0_3 a0_4 a0_5 a0_6 a0_7 a0_8 a0_9 a0_10 a0_11 a0_12 a0_13 a0_14 a0_15 a1 a2 r1 r2 r3 r4 r5 r6 r7 w hr).mono ?_
  rintro e w' ⟨rfl, hb⟩
  exact ⟨_, rfl, r_i64x4booli64_i64.enc_rel ρ (r1, r2, r3, r4, r5, r6, r7), hrel.below hb, Eff.of_below hb⟩
noncomputable def t_startup_Listen : List (Nat × Entry) := (12, startup_Listen.c) :: t_startup_listen
theorem t_startup_Listen_ok : TabOK Try.prog t_startup_Listen := TabOK.cons startup_Listen.ok t_startup_listen_ok
def startup_Due.f (a0_0 : Int) (a0_1 : Int) (a0_2 : Int) (a0_3 : Int) (a0_4 : Int) (a0_5 : Int) (a0_6 : Int) (a0_7 : Int) (a0_8 : Int) (a0_9 : Int) (a0_10 : Int) (a0_11 : Int) (a0_12 : Int) (a0_13 : Int) (a0_14 : Int) (a0_15 : Int) (a1_0 : Int) (a1_1 : Int) (a1_2 : Int) (a1_3 : Int) (a1_4 : Bool) (a1_5 : Int) : Option (Int × Int) :=
  ((startup_Check.f a0_0 a0_1 a0_2 a0_3 a0_4 a0_5 a0_6 a0_7 a0_8 a0_9 a0_10 a0_11 a0_12 a0_13 a0_14 a0_15 a1_0 a1_1 a1_2 a1_3 a1_4 a1_5).bind fun t0 => (if t0 ≠ 0 then some (0, t0) else (if a1_1 = 3 then ((table_Wait.f a0_0 a0_1 a0_2 a0_3 a0_4 a0_5 a0_6 a0_7 a0_8 a0_9 a0_10 a0_11 a0_12 a0_13 a0_14 a0_15 a1_0).bind fun t1 => (if t1.snd ≠ 0 then some (0, 210) else some (wrap64 (a1_2 + t1.fst), 0))) else ((table_Listen.f a0_0 a0_1 a0_2 a0_3 a0_4 a0_5 a0_6 a0_7 a0_8 a0_9 a0_10 a0_11 a0_12 a0_13 a0_14 a0_15 a1_0).bind fun t1 => (if t1.snd ≠ 0 then some (0, 210) else some (wrap64 (a1_2 + t1.fst), 0))))))
set_option maxRecDepth 100000 in
theorem startup_Due.calls (a0_0 : Int) (a0_1 : Int) (a0_2 : Int) (a0_3 : Int) (a0_4 : Int) (a0_5 : Int) (a0_6 : Int) (a0_7 : Int) (a0_8 : Int) (a0_9 : Int) (a0_10 : Int) (a0_11 : Int) (a0_12 : Int) (a0_13 : Int) (a0_14 : Int) (a0_15 : Int) (a1_0 : Int) (a1_1 : Int) (a1_2 : Int) (a1_3 : Int) (a1_4 : Bool) (a1_5 : Int) (r1 : Int) (r2 : Int) (w : World) (h : startup_Due.f a0_0 a0_1 a0_2 a0_3 a0_4 a0_5 a0_6 a0_7 a0_8 a0_9 a0_10 a0_11 a0_12 a0_13 a0_14 a0_15 a1_0 a1_1 a1_2 a1_3 a1_4 a1_5 = some (r1, r2)) :
    Calls Try.prog 6 #[.agg #[.int .i64 a0_0, .int .i64 a0_1, .int .i64 a0_2, .int .i64 a0_3, .int .i64 a0_4, .int .i64 a0_5, .int .i64 a0_6, .int .i64 a0_7, .int .i64 a0_8, .int .i64 a0_9, .int .i64 a0_10, .int .i64 a0_11, .int .i64 a0_12, .int .i64 a0_13, .int .i64 a0_14, .int .i64 a0_15], .agg #[.int .i64 a1_0, .int .i64 a1_1, .int .i64 a1_2, .int .i64 a1_3, .bool a1_4, .int .i64 a1_5]] w fun e w' => e = .returned (.tuple #[.int .i64 r1, .int .i64 r2]) ∧ Below w.heap.size w w' := by
  have ht : (walk Try.prog (ctOf t_startup_Listen) noL 100000 6 [.agg [.int .i64 (.s a0_0), .int .i64 (.s a0_1), .int .i64 (.s a0_2), .int .i64 (.s a0_3), .int .i64 (.s a0_4), .int .i64 (.s a0_5), .int .i64 (.s a0_6), .int .i64 (.s a0_7), .int .i64 (.s a0_8), .int .i64 (.s a0_9), .int .i64 (.s a0_10), .int .i64 (.s a0_11), .int .i64 (.s a0_12), .int .i64 (.s a0_13), .int .i64 (.s a0_14), .int .i64 (.s a0_15)], .agg [.int .i64 (.s a1_0), .int .i64 (.s a1_1), .int .i64 (.s a1_2), .int .i64 (.s a1_3), .bool (.s a1_4), .int .i64 (.s a1_5)]] [] 0).opt r_i64_i64.dec = startup_Due.f a0_0 a0_1 a0_2 a0_3 a0_4 a0_5 a0_6 a0_7 a0_8 a0_9 a0_10 a0_11 a0_12 a0_13 a0_14 a0_15 a1_0 a1_1 a1_2 a1_3 a1_4 a1_5 := by kernel_rfl
  exact calls_of named mixed t_startup_Listen_ok.ct noL_ok ht h (by kernel_rfl) (by kernel_rfl) w fun _ _ _ _ _ hd hx => r_i64_i64.ok hd hx
noncomputable def startup_Due.c : Entry := fun args _ => g_i64x16 args fun a0_0 a0_1 a0_2 a0_3 a0_4 a0_5 a0_6 a0_7 a0_8 a0_9 a0_10 a0_11 a0_12 a0_13 a0_14 a0_15 args => g_i64x4booli64 args fun a1_0 a1_1 a1_2 a1_3 a1_4 a1_5 args => aN args (some { o := startup_Due.f a0_0 a0_1 a0_2 a0_3 a0_4 a0_5 a0_6 a0_7 a0_8 a0_9 a0_10 a0_11 a0_12 a0_13 a0_14 a0_15 a1_0 a1_1 a1_2 a1_3 a1_4 a1_5, enc := r_i64_i64.enc })
theorem startup_Due.ok : EntryOK Try.prog 6 startup_Due.c := by
  intro args H c h r hr ρ hn w xs hx hrel
  unfold startup_Due.c at h
  obtain ⟨a0_0, a0_1, a0_2, a0_3, a0_4, a0_5, a0_6, a0_7, a0_8, a0_9, a0_10, a0_11, a0_12, a0_13, a0_14, a0_15, xs, args, rfl, hx, h⟩ := g_i64x16_ok h hx
  obtain ⟨a1_0, a1_1, a1_2, a1_3, a1_4, a1_5, xs, args, rfl, hx, h⟩ := g_i64x4booli64_ok h hx
  obtain ⟨rfl, h⟩ := aN_ok h hx
  cases h
  obtain ⟨r1, r2⟩ := r
  refine (startup_Due.calls a0_0 a0_1 a0_2 a0_3 a0_4 a0_5 a0_6 a0_7 a0_8 a0_9 a0_10 a0_11 a0_12 a0_13 a0_14 a0_15 a1_0 a1_1 a1_2 a1_3 a1_4 a1_5 r1 r2 w hr).mono ?_
  rintro e w' ⟨rfl, hb⟩
  exact ⟨_, rfl, r_i64_i64.enc_rel ρ (r1, r2), hrel.below hb, Eff.of_below hb⟩
noncomputable def t_startup_Due : List (Nat × Entry) := (6, startup_Due.c) :: t_startup_Listen
theorem t_startup_Due_ok : TabOK Try.prog t_startup_Due := TabOK.cons startup_Due.ok t_startup_Listen_ok
def r_i64x4booli64_i64_i64.dec : AV → Heap → Nat → Option (Int × Int × Int × Int × Bool × Int × Int × Int)
  | .tup [.agg [x0, x1, x2, x3, x4, x5], x6, x7], _, _ => (dI .i64 x0).bind fun n0 => (dI .i64 x1).bind fun n1 => (dI .i64 x2).bind fun n2 => (dI .i64 x3).bind fun n3 => (dB x4).bind fun n4 => (dI .i64 x5).bind fun n5 => (dI .i64 x6).bind fun n6 => (dI .i64 x7).bind fun n7 => some (n0, n1, n2, n3, n4, n5, n6, n7)
  | _, _, _ => none
def r_i64x4booli64_i64_i64.enc (r : Int × Int × Int × Int × Bool × Int × Int × Int) : AV := .tup [.agg [.int .i64 (.s r.1), .int .i64 (.s r.2.1), .int .i64 (.s r.2.2.1), .int .i64 (.s r.2.2.2.1), .bool (.s r.2.2.2.2.1), .int .i64 (.s r.2.2.2.2.2.1)], .int .i64 (.s r.2.2.2.2.2.2.1), .int .i64 (.s r.2.2.2.2.2.2.2)]
abbrev r_i64x4booli64_i64_i64.val (r : Int × Int × Int × Int × Bool × Int × Int × Int) : Value := .tuple #[.agg #[.int .i64 r.1, .int .i64 r.2.1, .int .i64 r.2.2.1, .int .i64 r.2.2.2.1, .bool r.2.2.2.2.1, .int .i64 r.2.2.2.2.2.1], .int .i64 r.2.2.2.2.2.2.1, .int .i64 r.2.2.2.2.2.2.2]
theorem r_i64x4booli64_i64_i64.enc_rel (ρ : Pl) (r : Int × Int × Int × Int × Bool × Int × Int × Int) : (r_i64x4booli64_i64_i64.enc r).rel ρ (r_i64x4booli64_i64_i64.val r) := AV.flat_rel _ rfl
theorem r_i64x4booli64_i64_i64.ok {v : AV} {H : Heap} {hn : Nat} {r : Int × Int × Int × Int × Bool × Int × Int × Int} {ρ : Pl} {x : Value} (h : r_i64x4booli64_i64_i64.dec v H hn = some r) (hx : v.rel ρ x) : x = r_i64x4booli64_i64_i64.val r := by
  unfold r_i64x4booli64_i64_i64.dec at h
  split at h
  · obtain ⟨n0, e0, h⟩ := Option.bind_eq_some_iff.1 h
    obtain ⟨n1, e1, h⟩ := Option.bind_eq_some_iff.1 h
    obtain ⟨n2, e2, h⟩ := Option.bind_eq_some_iff.1 h
    obtain ⟨n3, e3, h⟩ := Option.bind_eq_some_iff.1 h
    obtain ⟨n4, e4, h⟩ := Option.bind_eq_some_iff.1 h
    obtain ⟨n5, e5, h⟩ := Option.bind_eq_some_iff.1 h
    obtain ⟨n6, e6, h⟩ := Option.bind_eq_some_iff.1 h
    obtain ⟨n7, e7, h⟩ := Option.bind_eq_some_iff.1 h
    cases h
    obtain ⟨z, hx, rfl⟩ := hx
    obtain ⟨y1, y2, hy1, hx, rfl⟩ := hx
    obtain ⟨y3, hy1, rfl⟩ := hy1
    obtain ⟨y4, y5, hy4, hy1, rfl⟩ := hy1
    obtain rfl := dI_ok e0 hy4
    obtain ⟨y6, y7, hy6, hy1, rfl⟩ := hy1
    obtain rfl := dI_ok e1 hy6
    obtain ⟨y8, y9, hy8, hy1, rfl⟩ := hy1
    obtain rfl := dI_ok e2 hy8
    obtain ⟨y10, y11, hy10, hy1, rfl⟩ := hy1
    obtain rfl := dI_ok e3 hy10
    obtain ⟨y12, y13, hy12, hy1, rfl⟩ := hy1
    obtain rfl := dB_ok e4 hy12
    obtain ⟨y14, y15, hy14, hy1, rfl⟩ := hy1
    obtain rfl := dI_ok e5 hy14
    obtain rfl := (show _ = [] from hy1)
    obtain ⟨y16, y17, hy16, hx, rfl⟩ := hx
    obtain rfl := dI_ok e6 hy16
    obtain ⟨y18, y19, hy18, hx, rfl⟩ := hx
    obtain rfl := dI_ok e7 hy18
    obtain rfl := (show _ = [] from hx)
    rfl
  · cases h
def startup_Time.f (a0_0 : Int) (a0_1 : Int) (a0_2 : Int) (a0_3 : Int) (a0_4 : Int) (a0_5 : Int) (a0_6 : Int) (a0_7 : Int) (a0_8 : Int) (a0_9 : Int) (a0_10 : Int) (a0_11 : Int) (a0_12 : Int) (a0_13 : Int) (a0_14 : Int) (a0_15 : Int) (a1_0 : Int) (a1_1 : Int) (a1_2 : Int) (a1_3 : Int) (a1_4 : Bool) (a1_5 : Int) (a2 : Int) : Option (Int × Int × Int × Int × Bool × Int × Int × Int) :=
  ((startup_Due.f a0_0 a0_1 a0_2 a0_3 a0_4 a0_5 a0_6 a0_7 a0_8 a0_9 a0_10 a0_11 a0_12 a0_13 a0_14 a0_15 a1_0 a1_1 a1_2 a1_3 a1_4 a1_5).bind fun t0 => (if t0.snd ≠ 0 then some (0, 0, 0, 0, false, 0, 0, 210) else (if a2 < a1_2 then some (0, 0, 0, 0, false, 0, 0, 210) else (if a2 > 4294967296 then some (0, 0, 0, 0, false, 0, 0, 210) else (if a2 < t0.fst then some (a1_0, a1_1, a1_2, a1_3, a1_4, a1_5, 0, 0) else (if a1_5 = 3 then ((startup_listen.f a1_0 a1_1 a1_2 a1_3 a1_4 a1_5 a2 false).bind fun t1 => some (t1.fst, t1.snd.fst, t1.snd.snd.fst, t1.snd.snd.snd.fst, t1.snd.snd.snd.snd.fst, t1.snd.snd.snd.snd.snd, 5, 0)) else some (a1_0, 3, a2, 0, false, wrap64 (a1_5 + 1), 1, 0)))))))
set_option maxRecDepth 100000 in
theorem startup_Time.calls (a0_0 : Int) (a0_1 : Int) (a0_2 : Int) (a0_3 : Int) (a0_4 : Int) (a0_5 : Int) (a0_6 : Int) (a0_7 : Int) (a0_8 : Int) (a0_9 : Int) (a0_10 : Int) (a0_11 : Int) (a0_12 : Int) (a0_13 : Int) (a0_14 : Int) (a0_15 : Int) (a1_0 : Int) (a1_1 : Int) (a1_2 : Int) (a1_3 : Int) (a1_4 : Bool) (a1_5 : Int) (a2 : Int) (r1 : Int) (r2 : Int) (r3 : Int) (r4 : Int) (r5 : Bool) (r6 : Int) (r7 : Int) (r8 : Int) (w : World) (h : startup_Time.f a0_0 a0_1 a0_2 a0_3 a0_4 a0_5 a0_6 a0_7 a0_8 a0_9 a0_10 a0_11 a0_12 a0_13 a0_14 a0_15 a1_0 a1_1 a1_2 a1_3 a1_4 a1_5 a2 = some (r1, r2, r3, r4, r5, r6, r7, r8)) :
    Calls Try.prog 7 #[.agg #[.int .i64 a0_0, .int .i64 a0_1, .int .i64 a0_2, .int .i64 a0_3, .int .i64 a0_4, .int .i64 a0_5, .int .i64 a0_6, .int .i64 a0_7, .int .i64 a0_8, .int .i64 a0_9, .int .i64 a0_10, .int .i64 a0_11, .int .i64 a0_12, .int .i64 a0_13, .int .i64 a0_14, .int .i64 a0_15], .agg #[.int .i64 a1_0, .int .i64 a1_1, .int .i64 a1_2, .int .i64 a1_3, .bool a1_4, .int .i64 a1_5], .int .i64 a2] w fun e w' => e = .returned (.tuple #[.agg #[.int .i64 r1, .int .i64 r2, .int .i64 r3, .int .i64 r4, .bool r5, .int .i64 r6], .int .i64 r7, .int .i64 r8]) ∧ Below w.heap.size w w' := by
  have ht : (walk Try.prog (ctOf t_startup_Due) noL 100000 7 [.agg [.int .i64 (.s a0_0), .int .i64 (.s a0_1), .int .i64 (.s a0_2), .int .i64 (.s a0_3), .int .i64 (.s a0_4), .int .i64 (.s a0_5), .int .i64 (.s a0_6), .int .i64 (.s a0_7), .int .i64 (.s a0_8), .int .i64 (.s a0_9), .int .i64 (.s a0_10), .int .i64 (.s a0_11), .int .i64 (.s a0_12), .int .i64 (.s a0_13), .int .i64 (.s a0_14), .int .i64 (.s a0_15)], .agg [.int .i64 (.s a1_0), .int .i64 (.s a1_1), .int .i64 (.s a1_2), .int .i64 (.s a1_3), .bool (.s a1_4), .int .i64 (.s a1_5)], .int .i64 (.s a2)] [] 0).opt r_i64x4booli64_i64_i64.dec = startup_Time.f a0_0 a0_1 a0_2 a0_3 a0_4 a0_5 a0_6 a0_7 a0_8 a0_9 a0_10 a0_11 a0_12 a0_13 a0_14 a0_15 a1_0 a1_1 a1_2 a1_3 a1_4 a1_5 a2 := by kernel_rfl
  exact calls_of named mixed t_startup_Due_ok.ct noL_ok ht h (by kernel_rfl) (by kernel_rfl) w fun _ _ _ _ _ hd hx => r_i64x4booli64_i64_i64.ok hd hx
noncomputable def startup_Time.c : Entry := fun args _ => g_i64x16 args fun a0_0 a0_1 a0_2 a0_3 a0_4 a0_5 a0_6 a0_7 a0_8 a0_9 a0_10 a0_11 a0_12 a0_13 a0_14 a0_15 args => g_i64x4booli64 args fun a1_0 a1_1 a1_2 a1_3 a1_4 a1_5 args => aI .i64 args fun a2 args => aN args (some { o := startup_Time.f a0_0 a0_1 a0_2 a0_3 a0_4 a0_5 a0_6 a0_7 a0_8 a0_9 a0_10 a0_11 a0_12 a0_13 a0_14 a0_15 a1_0 a1_1 a1_2 a1_3 a1_4 a1_5 a2, enc := r_i64x4booli64_i64_i64.enc })
theorem startup_Time.ok : EntryOK Try.prog 7 startup_Time.c := by
  intro args H c h r hr ρ hn w xs hx hrel
  unfold startup_Time.c at h
  obtain ⟨a0_0, a0_1, a0_2, a0_3, a0_4, a0_5, a0_6, a0_7, a0_8, a0_9, a0_10, a0_11, a0_12, a0_13, a0_14, a0_15, xs, args, rfl, hx, h⟩ := g_i64x16_ok h hx
  obtain ⟨a1_0, a1_1, a1_2, a1_3, a1_4, a1_5, xs, args, rfl, hx, h⟩ := g_i64x4booli64_ok h hx
  obtain ⟨a2, xs, args, rfl, hx, h⟩ := aI_ok h hx
  obtain ⟨rfl, h⟩ := aN_ok h hx
  cases h
  obtain ⟨r1, r2, r3, r4, r5, r6, r7, r8⟩ := r
  refine (startup_Time.calls a0_0 a0_1 a0_2 a0_3 a0_4 a0_5 a0_6 a0_7 a0_8 a0_9 a0_10 a0_11 a0_12 a0_13 a0_14 a0_15 a1_0 a1_1 a1_2 a1_3 a1_4 a1_5 a2 r1 r2 r3 r4 r5 r6 r7 r8 w hr).mono ?_
  rintro e w' ⟨rfl, hb⟩
  exact ⟨_, rfl, r_i64x4booli64_i64_i64.enc_rel ρ (r1, r2, r3, r4, r5, r6, r7, r8), hrel.below hb, Eff.of_below hb⟩
noncomputable def t_startup_Time : List (Nat × Entry) := (7, startup_Time.c) :: t_startup_Due
theorem t_startup_Time_ok : TabOK Try.prog t_startup_Time := TabOK.cons startup_Time.ok t_startup_Due_ok
def startup_Join.f (a0_0 : Int) (a0_1 : Int) (a0_2 : Int) (a0_3 : Int) (a0_4 : Int) (a0_5 : Int) (a0_6 : Int) (a0_7 : Int) (a0_8 : Int) (a0_9 : Int) (a0_10 : Int) (a0_11 : Int) (a0_12 : Int) (a0_13 : Int) (a0_14 : Int) (a0_15 : Int) (a1_0 : Int) (a1_1 : Int) (a2 : Int) : Option (Int × Int) :=
  ((table_Expected.f a0_0 a0_1 a0_2 a0_3 a0_4 a0_5 a0_6 a0_7 a0_8 a0_9 a0_10 a0_11 a0_12 a0_13 a0_14 a0_15 a1_0 a1_1).bind fun t0 => (if t0.snd.snd.snd ≠ 0 then some (0, 210) else ((startup_time.f (if wrap64 (0 - a2) > a2 then wrap64 (0 - a2) else a2)).bind fun t1 => (if (!t1) = true then some (0, 210) else some (wrap64 (t0.fst - a2), 0)))))
set_option maxRecDepth 100000 in
theorem startup_Join.calls (a0_0 : Int) (a0_1 : Int) (a0_2 : Int) (a0_3 : Int) (a0_4 : Int) (a0_5 : Int) (a0_6 : Int) (a0_7 : Int) (a0_8 : Int) (a0_9 : Int) (a0_10 : Int) (a0_11 : Int) (a0_12 : Int) (a0_13 : Int) (a0_14 : Int) (a0_15 : Int) (a1_0 : Int) (a1_1 : Int) (a2 : Int) (r1 : Int) (r2 : Int) (w : World) (h : startup_Join.f a0_0 a0_1 a0_2 a0_3 a0_4 a0_5 a0_6 a0_7 a0_8 a0_9 a0_10 a0_11 a0_12 a0_13 a0_14 a0_15 a1_0 a1_1 a2 = some (r1, r2)) :
    Calls Try.prog 10 #[.agg #[.int .i64 a0_0, .int .i64 a0_1, .int .i64 a0_2, .int .i64 a0_3, .int .i64 a0_4, .int .i64 a0_5, .int .i64 a0_6, .int .i64 a0_7, .int .i64 a0_8, .int .i64 a0_9, .int .i64 a0_10, .int .i64 a0_11, .int .i64 a0_12, .int .i64 a0_13, .int .i64 a0_14, .int .i64 a0_15], .agg #[.int .i64 a1_0, .int .i64 a1_1], .int .i64 a2] w fun e w' => e = .returned (.tuple #[.int .i64 r1, .int .i64 r2]) ∧ Below w.heap.size w w' := by
  have ht : (walk Try.prog (ctOf t_startup_Time) noL 100000 10 [.agg [.int .i64 (.s a0_0), .int .i64 (.s a0_1), .int .i64 (.s a0_2), .int .i64 (.s a0_3), .int .i64 (.s a0_4), .int .i64 (.s a0_5), .int .i64 (.s a0_6), .int .i64 (.s a0_7), .int .i64 (.s a0_8), .int .i64 (.s a0_9), .int .i64 (.s a0_10), .int .i64 (.s a0_11), .int .i64 (.s a0_12), .int .i64 (.s a0_13), .int .i64 (.s a0_14), .int .i64 (.s a0_15)], .agg [.int .i64 (.s a1_0), .int .i64 (.s a1_1)], .int .i64 (.s a2)] [] 0).opt r_i64_i64.dec = startup_Join.f a0_0 a0_1 a0_2 a0_3 a0_4 a0_5 a0_6 a0_7 a0_8 a0_9 a0_10 a0_11 a0_12 a0_13 a0_14 a0_15 a1_0 a1_1 a2 := by kernel_rfl
  exact calls_of named mixed t_startup_Time_ok.ct noL_ok ht h (by kernel_rfl) (by kernel_rfl) w fun _ _ _ _ _ hd hx => r_i64_i64.ok hd hx
noncomputable def startup_Join.c : Entry := fun args _ => g_i64x16 args fun a0_0 a0_1 a0_2 a0_3 a0_4 a0_5 a0_6 a0_7 a0_8 a0_9 a0_10 a0_11 a0_12 a0_13 a0_14 a0_15 args => g_i64x2 args fun a1_0 a1_1 args => aI .i64 args fun a2 args => aN args (some { o := startup_Join.f a0_0 a0_1 a0_2 a0_3 a0_4 a0_5 a0_6 a0_7 a0_8 a0_9 a0_10 a0_11 a0_12 a0_13 a0_14 a0_15 a1_0 a1_1 a2, enc := r_i64_i64.enc })
theorem startup_Join.ok : EntryOK Try.prog 10 startup_Join.c := by
  intro args H c h r hr ρ hn w xs hx hrel
  unfold startup_Join.c at h
  obtain ⟨a0_0, a0_1, a0_2, a0_3, a0_4, a0_5, a0_6, a0_7, a0_8, a0_9, a0_10, a0_11, a0_12, a0_13, a0_14, a0_15, xs, args, rfl, hx, h⟩ := g_i64x16_ok h hx
  obtain ⟨a1_0, a1_1, xs, args, rfl, hx, h⟩ := g_i64x2_ok h hx
  obtain ⟨a2, xs, args, rfl, hx, h⟩ := aI_ok h hx
  obtain ⟨rfl, h⟩ := aN_ok h hx
  cases h
  obtain ⟨r1, r2⟩ := r
  refine (startup_Join.calls a0_0 a0_1 a0_2 a0_3 a0_4 a0_5 a0_6 a0_7 a0_8 a0_9 a0_10 a0_11 a0_12 a0_13 a0_14 a0_15 a1_0 a1_1 a2 r1 r2 w hr).mono ?_
  rintro e w' ⟨rfl, hb⟩
  exact ⟨_, rfl, r_i64_i64.enc_rel ρ (r1, r2), hrel.below hb, Eff.of_below hb⟩
noncomputable def t_startup_Join : List (Nat × Entry) := (10, startup_Join.c) :: t_startup_Time
theorem t_startup_Join_ok : TabOK Try.prog t_startup_Join := TabOK.cons startup_Join.ok t_startup_Time_ok
def r_i64_i64_i64.dec : AV → Heap → Nat → Option (Int × Int × Int)
  | .tup [x0, x1, x2], _, _ => (dI .i64 x0).bind fun n0 => (dI .i64 x1).bind fun n1 => (dI .i64 x2).bind fun n2 => some (n0, n1, n2)
  | _, _, _ => none
def r_i64_i64_i64.enc (r : Int × Int × Int) : AV := .tup [.int .i64 (.s r.1), .int .i64 (.s r.2.1), .int .i64 (.s r.2.2)]
abbrev r_i64_i64_i64.val (r : Int × Int × Int) : Value := .tuple #[.int .i64 r.1, .int .i64 r.2.1, .int .i64 r.2.2]
theorem r_i64_i64_i64.enc_rel (ρ : Pl) (r : Int × Int × Int) : (r_i64_i64_i64.enc r).rel ρ (r_i64_i64_i64.val r) := AV.flat_rel _ rfl
theorem r_i64_i64_i64.ok {v : AV} {H : Heap} {hn : Nat} {r : Int × Int × Int} {ρ : Pl} {x : Value} (h : r_i64_i64_i64.dec v H hn = some r) (hx : v.rel ρ x) : x = r_i64_i64_i64.val r := by
  unfold r_i64_i64_i64.dec at h
  split at h
  · obtain ⟨n0, e0, h⟩ := Option.bind_eq_some_iff.1 h
    obtain ⟨n1, e1, h⟩ := Option.bind_eq_some_iff.1 h
    obtain ⟨n2, e2, h⟩ := Option.bind_eq_some_iff.1 h
    cases h
    obtain ⟨z, hx, rfl⟩ := hx
    obtain ⟨y1, y2, hy1, hx, rfl⟩ := hx
    obtain rfl := dI_ok e0 hy1
    obtain ⟨y3, y4, hy3, hx, rfl⟩ := hx
    obtain rfl := dI_ok e1 hy3
    obtain ⟨y5, y6, hy5, hx, rfl⟩ := hx
    obtain rfl := dI_ok e2 hy5
    obtain rfl := (show _ = [] from hx)
    rfl
  · cases h
def vespersref07_numbers.f (a0_0 : Int) (a0_1 : Int) (a0_2 : Int) (a0_3 : Int) (a0_4 : Int) (a0_5 : Int) (a0_6 : Int) (a0_7 : Int) (a0_8 : Int) (a0_9 : Int) (a0_10 : Int) (a0_11 : Int) (a0_12 : Int) (a0_13 : Int) (a0_14 : Int) (a0_15 : Int) : Option (Int × Int × Int) :=
  (if a0_8 = 0 then none else some (wrap64 (wrap64 (a0_7 - a0_6) + 6), wrap64 (2 * wrap64 (wrap64 ((wrap64 (2 * wrap64 (a0_0 * a0_2))).tdiv a0_8) + 4)), wrap64 (2 * wrap64 (wrap64 (wrap64 (a0_7 - a0_6) + 6) + wrap64 (2 * wrap64 (wrap64 ((wrap64 (2 * wrap64 (a0_0 * a0_2))).tdiv a0_8) + 4))))))
set_option maxRecDepth 100000 in
theorem vespersref07_numbers.calls (a0_0 : Int) (a0_1 : Int) (a0_2 : Int) (a0_3 : Int) (a0_4 : Int) (a0_5 : Int) (a0_6 : Int) (a0_7 : Int) (a0_8 : Int) (a0_9 : Int) (a0_10 : Int) (a0_11 : Int) (a0_12 : Int) (a0_13 : Int) (a0_14 : Int) (a0_15 : Int) (r1 : Int) (r2 : Int) (r3 : Int) (w : World) (h : vespersref07_numbers.f a0_0 a0_1 a0_2 a0_3 a0_4 a0_5 a0_6 a0_7 a0_8 a0_9 a0_10 a0_11 a0_12 a0_13 a0_14 a0_15 = some (r1, r2, r3)) :
    Calls Try.prog 36 #[.agg #[.int .i64 a0_0, .int .i64 a0_1, .int .i64 a0_2, .int .i64 a0_3, .int .i64 a0_4, .int .i64 a0_5, .int .i64 a0_6, .int .i64 a0_7, .int .i64 a0_8, .int .i64 a0_9, .int .i64 a0_10, .int .i64 a0_11, .int .i64 a0_12, .int .i64 a0_13, .int .i64 a0_14, .int .i64 a0_15]] w fun e w' => e = .returned (.tuple #[.int .i64 r1, .int .i64 r2, .int .i64 r3]) ∧ Below w.heap.size w w' := by
  have ht : (walk Try.prog (ctOf t_startup_Join) noL 100000 36 [.agg [.int .i64 (.s a0_0), .int .i64 (.s a0_1), .int .i64 (.s a0_2), .int .i64 (.s a0_3), .int .i64 (.s a0_4), .int .i64 (.s a0_5), .int .i64 (.s a0_6), .int .i64 (.s a0_7), .int .i64 (.s a0_8), .int .i64 (.s a0_9), .int .i64 (.s a0_10), .int .i64 (.s a0_11), .int .i64 (.s a0_12), .int .i64 (.s a0_13), .int .i64 (.s a0_14), .int .i64 (.s a0_15)]] [] 0).opt r_i64_i64_i64.dec = vespersref07_numbers.f a0_0 a0_1 a0_2 a0_3 a0_4 a0_5 a0_6 a0_7 a0_8 a0_9 a0_10 a0_11 a0_12 a0_13 a0_14 a0_15 := by kernel_rfl
  exact calls_of named mixed t_startup_Join_ok.ct noL_ok ht h (by kernel_rfl) (by kernel_rfl) w fun _ _ _ _ _ hd hx => r_i64_i64_i64.ok hd hx
noncomputable def vespersref07_numbers.c : Entry := fun args _ => g_i64x16 args fun a0_0 a0_1 a0_2 a0_3 a0_4 a0_5 a0_6 a0_7 a0_8 a0_9 a0_10 a0_11 a0_12 a0_13 a0_14 a0_15 args => aN args (some { o := vespersref07_numbers.f a0_0 a0_1 a0_2 a0_3 a0_4 a0_5 a0_6 a0_7 a0_8 a0_9 a0_10 a0_11 a0_12 a0_13 a0_14 a0_15, enc := r_i64_i64_i64.enc })
theorem vespersref07_numbers.ok : EntryOK Try.prog 36 vespersref07_numbers.c := by
  intro args H c h r hr ρ hn w xs hx hrel
  unfold vespersref07_numbers.c at h
  obtain ⟨a0_0, a0_1, a0_2, a0_3, a0_4, a0_5, a0_6, a0_7, a0_8, a0_9, a0_10, a0_11, a0_12, a0_13, a0_14, a0_15, xs, args, rfl, hx, h⟩ := g_i64x16_ok h hx
  obtain ⟨rfl, h⟩ := aN_ok h hx
  cases h
  obtain ⟨r1, r2, r3⟩ := r
  refine (vespersref07_numbers.calls a0_0 a0_1 a0_2 a0_3 a0_4 a0_5 a0_6 a0_7 a0_8 a0_9 a0_10 a0_11 a0_12 a0_13 a0_14 a0_15 r1 r2 r3 w hr).mono ?_
  rintro e w' ⟨rfl, hb⟩
  exact ⟨_, rfl, r_i64_i64_i64.enc_rel ρ (r1, r2, r3), hrel.below hb, Eff.of_below hb⟩
noncomputable def t_vespersref07_numbers : List (Nat × Entry) := (36, vespersref07_numbers.c) :: t_startup_Join
theorem t_vespersref07_numbers_ok : TabOK Try.prog t_vespersref07_numbers := TabOK.cons vespersref07_numbers.ok t_startup_Join_ok
def vespersref07_first.f (a0_0 : Int) (a0_1 : Int) (a0_2 : Int) (a0_3 : Int) (a0_4 : Int) (a0_5 : Int) (a0_6 : Int) (a0_7 : Int) (a0_8 : Int) (a0_9 : Int) (a0_10 : Int) (a0_11 : Int) (a0_12 : Int) (a0_13 : Int) (a0_14 : Int) (a0_15 : Int) : Option Int :=
  (if a0_0 < 4 then some 1 else (if a0_0 > 16 then some 1 else (if a0_1 < 0 then some 1 else (if a0_1 > 16 then some 1 else (if a0_0 < wrap64 (wrap64 (2 * a0_1) + 2) then some 1 else (if a0_5 < 1 then some 2 else (if a0_5 > 1048576 then some 2 else (if a0_6 < 0 then some 2 else (if a0_7 < a0_6 then some 2 else (if a0_7 > 1048576 then some 2 else (if a0_2 < 1 then some 3 else (if a0_2 > 1048576 then some 3 else (if a0_8 < 4 then some 3 else (if a0_8 > 1048576 then some 3 else some 0))))))))))))))
set_option maxRecDepth 100000 in
theorem vespersref07_first.calls (a0_0 : Int) (a0_1 : Int) (a0_2 : Int) (a0_3 : Int) (a0_4 : Int) (a0_5 : Int) (a0_6 : Int) (a0_7 : Int) (a0_8 : Int) (a0_9 : Int) (a0_10 : Int) (a0_11 : Int) (a0_12 : Int) (a0_13 : Int) (a0_14 : Int) (a0_15 : Int) (r : Int) (w : World) (h : vespersref07_first.f a0_0 a0_1 a0_2 a0_3 a0_4 a0_5 a0_6 a0_7 a0_8 a0_9 a0_10 a0_11 a0_12 a0_13 a0_14 a0_15 = some r) :
    Calls Try.prog 35 #[.agg #[.int .i64 a0_0, .int .i64 a0_1, .int .i64 a0_2, .int .i64 a0_3, .int .i64 a0_4, .int .i64 a0_5, .int .i64 a0_6, .int .i64 a0_7, .int .i64 a0_8, .int .i64 a0_9, .int .i64 a0_10, .int .i64 a0_11, .int .i64 a0_12, .int .i64 a0_13, .int .i64 a0_14, .int .i64 a0_15]] w fun e w' => e = .returned (.int .i64 r) ∧ Below w.heap.size w w' := by
  have ht : (walk Try.prog (ctOf t_vespersref07_numbers) noL 100000 35 [.agg [.int .i64 (.s a0_0), .int .i64 (.s a0_1), .int .i64 (.s a0_2), .int .i64 (.s a0_3), .int .i64 (.s a0_4), .int .i64 (.s a0_5), .int .i64 (.s a0_6), .int .i64 (.s a0_7), .int .i64 (.s a0_8), .int .i64 (.s a0_9), .int .i64 (.s a0_10), .int .i64 (.s a0_11), .int .i64 (.s a0_12), .int .i64 (.s a0_13), .int .i64 (.s a0_14), .int .i64 (.s a0_15)]] [] 0).opt r_i64.dec = vespersref07_first.f a0_0 a0_1 a0_2 a0_3 a0_4 a0_5 a0_6 a0_7 a0_8 a0_9 a0_10 a0_11 a0_12 a0_13 a0_14 a0_15 := by kernel_rfl
  exact calls_of named mixed t_vespersref07_numbers_ok.ct noL_ok ht h (by kernel_rfl) (by kernel_rfl) w fun _ _ _ _ _ hd hx => r_i64.ok hd hx
noncomputable def vespersref07_first.c : Entry := fun args _ => g_i64x16 args fun a0_0 a0_1 a0_2 a0_3 a0_4 a0_5 a0_6 a0_7 a0_8 a0_9 a0_10 a0_11 a0_12 a0_13 a0_14 a0_15 args => aN args (some { o := vespersref07_first.f a0_0 a0_1 a0_2 a0_3 a0_4 a0_5 a0_6 a0_7 a0_8 a0_9 a0_10 a0_11 a0_12 a0_13 a0_14 a0_15, enc := r_i64.enc })
theorem vespersref07_first.ok : EntryOK Try.prog 35 vespersref07_first.c := by
  intro args H c h r hr ρ hn w xs hx hrel
  unfold vespersref07_first.c at h
  obtain ⟨a0_0, a0_1, a0_2, a0_3, a0_4, a0_5, a0_6, a0_7, a0_8, a0_9, a0_10, a0_11, a0_12, a0_13, a0_14, a0_15, xs, args, rfl, hx, h⟩ := g_i64x16_ok h hx
  obtain ⟨rfl, h⟩ := aN_ok h hx
  cases h
  refine (vespersref07_first.calls a0_0 a0_1 a0_2 a0_3 a0_4 a0_5 a0_6 a0_7 a0_8 a0_9 a0_10 a0_11 a0_12 a0_13 a0_14 a0_15 r w hr).mono ?_
  rintro e w' ⟨rfl, hb⟩
  exact ⟨_, rfl, r_i64.enc_rel ρ r, hrel.below hb, Eff.of_below hb⟩
noncomputable def t_vespersref07_first : List (Nat × Entry) := (35, vespersref07_first.c) :: t_vespersref07_numbers
theorem t_vespersref07_first_ok : TabOK Try.prog t_vespersref07_first := TabOK.cons vespersref07_first.ok t_vespersref07_numbers_ok
def vespersref07_Fails.f (a0_0 : Int) (a0_1 : Int) (a0_2 : Int) (a0_3 : Int) (a0_4 : Int) (a0_5 : Int) (a0_6 : Int) (a0_7 : Int) (a0_8 : Int) (a0_9 : Int) (a0_10 : Int) (a0_11 : Int) (a0_12 : Int) (a0_13 : Int) (a0_14 : Int) (a0_15 : Int) : Option Int :=
  ((vespersref07_first.f a0_0 a0_1 a0_2 a0_3 a0_4 a0_5 a0_6 a0_7 a0_8 a0_9 a0_10 a0_11 a0_12 a0_13 a0_14 a0_15).bind fun t0 => (if t0 > 0 then some t0 else ((vespersref07_numbers.f a0_0 a0_1 a0_2 a0_3 a0_4 a0_5 a0_6 a0_7 a0_8 a0_9 a0_10 a0_11 a0_12 a0_13 a0_14 a0_15).bind fun t1 => (if a0_9 < wrap64 (wrap64 (2 * wrap64 (t1.snd.snd + t1.snd.fst)) + t1.fst) then some 4 else (if a0_9 > 1048576 then some 4 else (if a0_4 < wrap64 (a0_9 + t1.fst) then some 5 else (if a0_4 > 1048576 then some 5 else (if a0_10 < wrap64 (wrap64 (t1.snd.snd + wrap64 (2 * t1.snd.fst)) + wrap64 (2 * t1.fst)) then some 6 else (if a0_10 > 1048576 then some 6 else (if a0_3 < wrap64 (wrap64 (a0_4 + a0_10) + a0_9) then some 7 else (if a0_3 > 1048576 then some 7 else (if a0_2 < wrap64 (wrap64 (wrap64 (wrap64 (wrap64 (wrap64 (a0_3 + a0_4) + wrap64 (2 * a0_7)) + wrap64 (2 * a0_5)) + a0_10) + a0_9) + 8) then some 8 else (if a0_12 < 1 then some 9 else (if a0_12 > 64 then some 9 else (if a0_13 < 1 then some 9 else (if a0_13 > 8 then some 9 else (if a0_14 < 1 then some 9 else (if a0_14 > 32 then some 9 else (if a0_13 = 0 then none else (if wrap64 (wrap64 (a0_12.tdiv a0_13) * a0_13) < a0_12 then (if a0_11 < wrap64 (wrap64 (wrap64 (wrap64 (wrap64 (a0_12.tdiv a0_13) + 1) + 3) * wrap64 (a0_0 * a0_2)) + wrap64 (2 * a0_9)) then some 10 else (if a0_11 > wrap64 (64 * wrap64 (a0_0 * a0_2)) then some 10 else (if a0_15 < wrap64 (40 * wrap64 (a0_0 * a0_2)) then some 11 else (if a0_15 > 2147483648 then some 11 else some 0)))) else (if a0_11 < wrap64 (wrap64 (wrap64 (wrap64 (a0_12.tdiv a0_13) + 3) * wrap64 (a0_0 * a0_2)) + wrap64 (2 * a0_9)) then some 10 else (if a0_11 > wrap64 (64 * wrap64 (a0_0 * a0_2)) then some 10 else (if a0_15 < wrap64 (40 * wrap64 (a0_0 * a0_2)) then some 11 else (if a0_15 > 2147483648 then some 11 else some 0))))))))))))))))))))))))
set_option maxRecDepth 100000 in
theorem vespersref07_Fails.calls (a0_0 : Int) (a0_1 : Int) (a0_2 : Int) (a0_3 : Int) (a0_4 : Int) (a0_5 : Int) (a0_6 : Int) (a0_7 : Int) (a0_8 : Int) (a0_9 : Int) (a0_10 : Int) (a0_11 : Int) (a0_12 : Int) (a0_13 : Int) (a0_14 : Int) (a0_15 : Int) (r : Int) (w : World) (h : vespersref07_Fails.f a0_0 a0_1 a0_2 a0_3 a0_4 a0_5 a0_6 a0_7 a0_8 a0_9 a0_10 a0_11 a0_12 a0_13 a0_14 a0_15 = some r) :
    Calls Try.prog 25 #[.agg #[.int .i64 a0_0, .int .i64 a0_1, .int .i64 a0_2, .int .i64 a0_3, .int .i64 a0_4, .int .i64 a0_5, .int .i64 a0_6, .int .i64 a0_7, .int .i64 a0_8, .int .i64 a0_9, .int .i64 a0_10, .int .i64 a0_11, .int .i64 a0_12, .int .i64 a0_13, .int .i64 a0_14, .int .i64 a0_15]] w fun e w' => e = .returned (.int .i64 r) ∧ Below w.heap.size w w' := by
  have ht : (walk Try.prog (ctOf t_vespersref07_first) noL 100000 25 [.agg [.int .i64 (.s a0_0), .int .i64 (.s a0_1), .int .i64 (.s a0_2), .int .i64 (.s a0_3), .int .i64 (.s a0_4), .int .i64 (.s a0_5), .int .i64 (.s a0_6), .int .i64 (.s a0_7), .int .i64 (.s a0_8), .int .i64 (.s a0_9), .int .i64 (.s a0_10), .int .i64 (.s a0_11), .int .i64 (.s a0_12), .int .i64 (.s a0_13), .int .i64 (.s a0_14), .int .i64 (.s a0_15)]] [] 0).opt r_i64.dec = vespersref07_Fails.f a0_0 a0_1 a0_2 a0_3 a0_4 a0_5 a0_6 a0_7 a0_8 a0_9 a0_10 a0_11 a0_12 a0_13 a0_14 a0_15 := by kernel_rfl
  exact calls_of named mixed t_vespersref07_first_ok.ct noL_ok ht h (by kernel_rfl) (by kernel_rfl) w fun _ _ _ _ _ hd hx => r_i64.ok hd hx
noncomputable def vespersref07_Fails.c : Entry := fun args _ => g_i64x16 args fun a0_0 a0_1 a0_2 a0_3 a0_4 a0_5 a0_6 a0_7 a0_8 a0_9 a0_10 a0_11 a0_12 a0_13 a0_14 a0_15 args => aN args (some { o := vespersref07_Fails.f a0_0 a0_1 a0_2 a0_3 a0_4 a0_5 a0_6 a0_7 a0_8 a0_9 a0_10 a0_11 a0_12 a0_13 a0_14 a0_15, enc := r_i64.enc })
theorem vespersref07_Fails.ok : EntryOK Try.prog 25 vespersref07_Fails.c := by
  intro args H c h r hr ρ hn w xs hx hrel
  unfold vespersref07_Fails.c at h
  obtain ⟨a0_0, a0_1, a0_2, a0_3, a0_4, a0_5, a0_6, a0_7, a0_8, a0_9, a0_10, a0_11, a0_12, a0_13, a0_14, a0_15, xs, args, rfl, hx, h⟩ := g_i64x16_ok h hx
  obtain ⟨rfl, h⟩ := aN_ok h hx
  cases h
  refine (vespersref07_Fails.calls a0_0 a0_1 a0_2 a0_3 a0_4 a0_5 a0_6 a0_7 a0_8 a0_9 a0_10 a0_11 a0_12 a0_13 a0_14 a0_15 r w hr).mono ?_
  rintro e w' ⟨rfl, hb⟩
  exact ⟨_, rfl, r_i64.enc_rel ρ r, hrel.below hb, Eff.of_below hb⟩
noncomputable def t_vespersref07_Fails : List (Nat × Entry) := (25, vespersref07_Fails.c) :: t_vespersref07_first
theorem t_vespersref07_Fails_ok : TabOK Try.prog t_vespersref07_Fails := TabOK.cons vespersref07_Fails.ok t_vespersref07_first_ok
def vespersref07_Check.f (a0_0 : Int) (a0_1 : Int) (a0_2 : Int) (a0_3 : Int) (a0_4 : Int) (a0_5 : Int) (a0_6 : Int) (a0_7 : Int) (a0_8 : Int) (a0_9 : Int) (a0_10 : Int) (a0_11 : Int) (a0_12 : Int) (a0_13 : Int) (a0_14 : Int) (a0_15 : Int) : Option Int :=
  ((vespersref07_Fails.f a0_0 a0_1 a0_2 a0_3 a0_4 a0_5 a0_6 a0_7 a0_8 a0_9 a0_10 a0_11 a0_12 a0_13 a0_14 a0_15).bind fun t0 => (if t0 > 0 then some 70 else some 0))
set_option maxRecDepth 100000 in
theorem vespersref07_Check.calls (a0_0 : Int) (a0_1 : Int) (a0_2 : Int) (a0_3 : Int) (a0_4 : Int) (a0_5 : Int) (a0_6 : Int) (a0_7 : Int) (a0_8 : Int) (a0_9 : Int) (a0_10 : Int) (a0_11 : Int) (a0_12 : Int) (a0_13 : Int) (a0_14 : Int) (a0_15 : Int) (r : Int) (w : World) (h : vespersref07_Check.f a0_0 a0_1 a0_2 a0_3 a0_4 a0_5 a0_6 a0_7 a0_8 a0_9 a0_10 a0_11 a0_12 a0_13 a0_14 a0_15 = some r) :
    Calls Try.prog 19 #[.agg #[.int .i64 a0_0, .int .i64 a0_1, .int .i64 a0_2, .int .i64 a0_3, .int .i64 a0_4, .int .i64 a0_5, .int .i64 a0_6, .int .i64 a0_7, .int .i64 a0_8, .int .i64 a0_9, .int .i64 a0_10, .int .i64 a0_11, .int .i64 a0_12, .int .i64 a0_13, .int .i64 a0_14, .int .i64 a0_15]] w fun e w' => e = .returned (.int .i64 r) ∧ Below w.heap.size w w' := by
  have ht : (walk Try.prog (ctOf t_vespersref07_Fails) noL 100000 19 [.agg [.int .i64 (.s a0_0), .int .i64 (.s a0_1), .int .i64 (.s a0_2), .int .i64 (.s a0_3), .int .i64 (.s a0_4), .int .i64 (.s a0_5), .int .i64 (.s a0_6), .int .i64 (.s a0_7), .int .i64 (.s a0_8), .int .i64 (.s a0_9), .int .i64 (.s a0_10), .int .i64 (.s a0_11), .int .i64 (.s a0_12), .int .i64 (.s a0_13), .int .i64 (.s a0_14), .int .i64 (.s a0_15)]] [] 0).opt r_i64.dec = vespersref07_Check.f a0_0 a0_1 a0_2 a0_3 a0_4 a0_5 a0_6 a0_7 a0_8 a0_9 a0_10 a0_11 a0_12 a0_13 a0_14 a0_15 := by kernel_rfl
  exact calls_of named mixed t_vespersref07_Fails_ok.ct noL_ok ht h (by kernel_rfl) (by kernel_rfl) w fun _ _ _ _ _ hd hx => r_i64.ok hd hx
noncomputable def vespersref07_Check.c : Entry := fun args _ => g_i64x16 args fun a0_0 a0_1 a0_2 a0_3 a0_4 a0_5 a0_6 a0_7 a0_8 a0_9 a0_10 a0_11 a0_12 a0_13 a0_14 a0_15 args => aN args (some { o := vespersref07_Check.f a0_0 a0_1 a0_2 a0_3 a0_4 a0_5 a0_6 a0_7 a0_8 a0_9 a0_10 a0_11 a0_12 a0_13 a0_14 a0_15, enc := r_i64.enc })
theorem vespersref07_Check.ok : EntryOK Try.prog 19 vespersref07_Check.c := by
  intro args H c h r hr ρ hn w xs hx hrel
  unfold vespersref07_Check.c at h
  obtain ⟨a0_0, a0_1, a0_2, a0_3, a0_4, a0_5, a0_6, a0_7, a0_8, a0_9, a0_10, a0_11, a0_12, a0_13, a0_14, a0_15, xs, args, rfl, hx, h⟩ := g_i64x16_ok h hx
  obtain ⟨rfl, h⟩ := aN_ok h hx
  cases h
  refine (vespersref07_Check.calls a0_0 a0_1 a0_2 a0_3 a0_4 a0_5 a0_6 a0_7 a0_8 a0_9 a0_10 a0_11 a0_12 a0_13 a0_14 a0_15 r w hr).mono ?_
  rintro e w' ⟨rfl, hb⟩
  exact ⟨_, rfl, r_i64.enc_rel ρ r, hrel.below hb, Eff.of_below hb⟩
noncomputable def t_vespersref07_Check : List (Nat × Entry) := (19, vespersref07_Check.c) :: t_vespersref07_Fails
theorem t_vespersref07_Check_ok : TabOK Try.prog t_vespersref07_Check := TabOK.cons vespersref07_Check.ok t_vespersref07_Fails_ok
def vespersref21_Check.f (a0_0 : Int) (a0_1 : Int) (a0_2 : Int) (a0_3 : Int) (a0_4 : Int) (a0_5 : Int) (a0_6 : Int) (a0_7 : Int) (a0_8 : Int) (a0_9 : Int) (a0_10 : Int) (a0_11 : Int) (a0_12 : Int) (a0_13 : Int) (a0_14 : Int) (a0_15 : Int) (a1_0 : Int) (a1_1 : Int) (a1_2 : Int) (a1_3 : Int) (a1_4 : Bool) (a1_5 : Int) : Option Int :=
  ((vespersref07_Check.f a0_0 a0_1 a0_2 a0_3 a0_4 a0_5 a0_6 a0_7 a0_8 a0_9 a0_10 a0_11 a0_12 a0_13 a0_14 a0_15).bind fun t0 => (if t0 ≠ 0 then some 210 else (if a1_0 < 0 then some 210 else (if a1_0 ≥ a0_0 then some 210 else (if a1_2 < 0 then some 210 else (if a1_2 > 4294967296 then some 210 else (if a1_3 < 0 then some 210 else (if a1_3 > 4294967296 then some 210 else (if (!a1_4) = true then (if a1_3 > 0 then some 210 else (if a1_1 = 2 then (if a1_5 = 0 then some 0 else (if a1_1 = 3 then (if a1_5 > 0 then (if a1_5 < 4 then (if (!a1_4) = true then some 0 else some 210) else some 210) else some 210) else some 210)) else (if a1_1 = 3 then (if a1_5 > 0 then (if a1_5 < 4 then (if (!a1_4) = true then some 0 else some 210) else some 210) else some 210) else some 210))) else (if a1_1 = 2 then (if a1_5 = 0 then some 0 else (if a1_1 = 3 then (if a1_5 > 0 then (if a1_5 < 4 then (if (!a1_4) = true then some 0 else some 210) else some 210) else some 210) else some 210)) else (if a1_1 = 3 then (if a1_5 > 0 then (if a1_5 < 4 then (if (!a1_4) = true then some 0 else some 210) else some 210) else some 210) else some 210)))))))))))
set_option maxRecDepth 100000 in
theorem vespersref21_Check.calls (a0_0 : Int) (a0_1 : Int) (a0_2 : Int) (a0_3 : Int) (a0_4 : Int) (a0_5 : Int) (a0_6 : Int) (a0_7 : Int) (a0_8 : Int) (a0_9 : Int) (a0_10 : Int) (a0_11 : Int) (a0_12 : Int) (a0_13 : Int) (a0_14 : Int) (a0_15 : Int) (a1_0 : Int) (a1_1 : Int) (a1_2 : Int) (a1_3 : Int) (a1_4 : Bool) (a1_5 : Int) (r : Int) (w : World) (h : vespersref21_Check.f a0_0 a0_1 a0_2 a0_3 a0_4 a0_5 a0_6 a0_7 a0_8 a0_9 a0_10 a0_11 a0_12 a0_13 a0_14 a0_15 a1_0 a1_1 a1_2 a1_3 a1_4 a1_5 = some r) :
    Calls Try.prog 9 #[.agg #[.int .i64 a0_0, .int .i64 a0_1, .int .i64 a0_2, .int .i64 a0_3, .int .i64 a0_4, .int .i64 a0_5, .int .i64 a0_6, .int .i64 a0_7, .int .i64 a0_8, .int .i64 a0_9, .int .i64 a0_10, .int .i64 a0_11, .int .i64 a0_12, .int .i64 a0_13, .int .i64 a0_14, .int .i64 a0_15], .agg #[.int .i64 a1_0, .int .i64 a1_1, .int .i64 a1_2, .int .i64 a1_3, .bool a1_4, .int .i64 a1_5]] w fun e w' => e = .returned (.int .i64 r) ∧ Below w.heap.size w w' := by
  have ht : (walk Try.prog (ctOf t_vespersref07_Check) noL 100000 9 [.agg [.int .i64 (.s a0_0), .int .i64 (.s a0_1), .int .i64 (.s a0_2), .int .i64 (.s a0_3), .int .i64 (.s a0_4), .int .i64 (.s a0_5), .int .i64 (.s a0_6), .int .i64 (.s a0_7), .int .i64 (.s a0_8), .int .i64 (.s a0_9), .int .i64 (.s a0_10), .int .i64 (.s a0_11), .int .i64 (.s a0_12), .int .i64 (.s a0_13), .int .i64 (.s a0_14), .int .i64 (.s a0_15)], .agg [.int .i64 (.s a1_0), .int .i64 (.s a1_1), .int .i64 (.s a1_2), .int .i64 (.s a1_3), .bool (.s a1_4), .int .i64 (.s a1_5)]] [] 0).opt r_i64.dec = vespersref21_Check.f a0_0 a0_1 a0_2 a0_3 a0_4 a0_5 a0_6 a0_7 a0_8 a0_9 a0_10 a0_11 a0_12 a0_13 a0_14 a0_15 a1_0 a1_1 a1_2 a1_3 a1_4 a1_5 := by kernel_rfl
  exact calls_of named mixed t_vespersref07_Check_ok.ct noL_ok ht h (by kernel_rfl) (by kernel_rfl) w fun _ _ _ _ _ hd hx => r_i64.ok hd hx
noncomputable def vespersref21_Check.c : Entry := fun args _ => g_i64x16 args fun a0_0 a0_1 a0_2 a0_3 a0_4 a0_5 a0_6 a0_7 a0_8 a0_9 a0_10 a0_11 a0_12 a0_13 a0_14 a0_15 args => g_i64x4booli64 args fun a1_0 a1_1 a1_2 a1_3 a1_4 a1_5 args => aN args (some { o := vespersref21_Check.f a0_0 a0_1 a0_2 a0_3 a0_4 a0_5 a0_6 a0_7 a0_8 a0_9 a0_10 a0_11 a0_12 a0_13 a0_14 a0_15 a1_0 a1_1 a1_2 a1_3 a1_4 a1_5, enc := r_i64.enc })
theorem vespersref21_Check.ok : EntryOK Try.prog 9 vespersref21_Check.c := by
  intro args H c h r hr ρ hn w xs hx hrel
  unfold vespersref21_Check.c at h
  obtain ⟨a0_0, a0_1, a0_2, a0_3, a0_4, a0_5, a0_6, a0_7, a0_8, a0_9, a0_10, a0_11, a0_12, a0_13, a0_14, a0_15, xs, args, rfl, hx, h⟩ := g_i64x16_ok h hx
  obtain ⟨a1_0, a1_1, a1_2, a1_3, a1_4, a1_5, xs, args, rfl, hx, h⟩ := g_i64x4booli64_ok h hx
  obtain ⟨rfl, h⟩ := aN_ok h hx
  cases h
  refine (vespersref21_Check.calls a0_0 a0_1 a0_2 a0_3 a0_4 a0_5 a0_6 a0_7 a0_8 a0_9 a0_10 a0_11 a0_12 a0_13 a0_14 a0_15 a1_0 a1_1 a1_2 a1_3 a1_4 a1_5 r w hr).mono ?_
  rintro e w' ⟨rfl, hb⟩
  exact ⟨_, rfl, r_i64.enc_rel ρ r, hrel.below hb, Eff.of_below hb⟩
noncomputable def t_vespersref21_Check : List (Nat × Entry) := (9, vespersref21_Check.c) :: t_vespersref07_Check
theorem t_vespersref21_Check_ok : TabOK Try.prog t_vespersref21_Check := TabOK.cons vespersref21_Check.ok t_vespersref07_Check_ok
noncomputable abbrev tab_S1 : List (Nat × Entry) := t_vespersref21_Check
theorem tab_S1_ok : TabOK Try.prog tab_S1 := t_vespersref21_Check_ok
end Go.Proofs.YtoachpilnanghaaRRR.S
