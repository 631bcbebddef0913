/- Contracts by the symbolic walk: cmp_Compare_int64, cmp_Compare_int, agenda_before, vespersref10_After, vesperslaw10_at. -/
import Derived.Test.YtgkheobpnjmgdaaProg
import Derived.Test.YtgkheobpnjmgdaaSXo
namespace Go.Proofs.Ytgkheobpnjmgdaa.S
open Go Go.RowKit Go.Proofs.Ytgkheobpnjmgdaa.SX Go.Proofs
set_option linter.unusedVariables false
noncomputable section
theorem named : Named Try.prog := by
  intro f fn h
  have hall : (Try.prog.funcs.toList.all fun fn => !(fn.name == "runtime.NumGoroutine")) = true := by kernel_rfl
  have := List.all_eq_true.1 hall fn (List.mem_of_getElem? (show Try.prog.funcs.toList[f]? = some fn by simpa using h))
  simpa using this
theorem mixed : Try.prog.follows .mixedOrders = true := by kernel_rfl
def r_i64.dec : AV → Heap → Nat → Option Int := fun v _ _ => dI .i64 v
def r_i64.enc (r : Int) : AV := .int .i64 (.s r)
abbrev r_i64.val (r : Int) : Value := .int .i64 r
theorem r_i64.enc_rel (ρ : Pl) (r : Int) : (r_i64.enc r).rel ρ (r_i64.val r) := AV.flat_rel _ rfl
theorem r_i64.ok {v : AV} {H : Heap} {hn : Nat} {r : Int} {ρ : Pl} {x : Value} (h : r_i64.dec v H hn = some r) (hx : v.rel ρ x) : x = r_i64.val r := by
  unfold r_i64.dec at h
  exact dI_ok h hx
def cmp_Compare_int64.f (a0 : Int) (a1 : Int) : Option Int :=
  (if a0 ≠ a0 then (if a1 ≠ a1 then some 0 else some (-1)) else (if a1 ≠ a1 then some 1 else (if a0 < a1 then some (-1) else (if a0 > a1 then some 1 else some 0))))
set_option maxRecDepth 100000 in
theorem cmp_Compare_int64.calls (a0 : Int) (a1 : Int) (r : Int) (w : World) (h : cmp_Compare_int64.f a0 a1 = some r) :
    Calls Try.prog 63 #[.int .i64 a0, .int .i64 a1] w fun e w' => e = .returned (.int .i64 r) ∧ Below w.heap.size w w' := by
  have ht : (walk Try.prog (ctOf []) noL 100000 63 [.int .i64 (.s a0), .int .i64 (.s a1)] [] 0).opt r_i64.dec = cmp_Compare_int64.f a0 a1 := by kernel_rfl
  exact calls_of named mixed (TabOK.nil).ct noL_ok ht h (by kernel_rfl) (by kernel_rfl) w fun _ _ _ _ _ hd hx => r_i64.ok hd hx
noncomputable def cmp_Compare_int64.c : Entry := fun args _ _ => aI .i64 args fun a0 args => aI .i64 args fun a1 args => aN args (some { o := cmp_Compare_int64.f a0 a1, enc := r_i64.enc })
theorem cmp_Compare_int64.ok : EntryOK Try.prog 63 cmp_Compare_int64.c := by
  intro args H hn c h _ r hr ρ w xs hx hrel
  unfold cmp_Compare_int64.c at h
  obtain ⟨a0, xs, args, rfl, hx, h⟩ := aI_ok h hx
  obtain ⟨a1, xs, args, rfl, hx, h⟩ := aI_ok h hx
  obtain ⟨rfl, h⟩ := aN_ok h hx
  cases h
  refine (cmp_Compare_int64.calls a0 a1 r w hr).mono ?_
  rintro e w' ⟨rfl, hb⟩
  exact ⟨_, ρ, rfl, r_i64.enc_rel ρ r, ⟨rfl, hrel.below hb⟩, Eff.of_below hb, fun _ h => by cases h⟩
noncomputable def t_cmp_Compare_int64 : List (Nat × Entry) := (63, cmp_Compare_int64.c) :: []
theorem t_cmp_Compare_int64_ok : TabOK Try.prog t_cmp_Compare_int64 := TabOK.cons cmp_Compare_int64.ok TabOK.nil
def cmp_Compare_int.f (a0 : Int) (a1 : Int) : Option Int :=
  (if a0 ≠ a0 then (if a1 ≠ a1 then some 0 else some (-1)) else (if a1 ≠ a1 then some 1 else (if a0 < a1 then some (-1) else (if a0 > a1 then some 1 else some 0))))
set_option maxRecDepth 100000 in
theorem cmp_Compare_int.calls (a0 : Int) (a1 : Int) (r : Int) (w : World) (h : cmp_Compare_int.f a0 a1 = some r) :
    Calls Try.prog 64 #[.int .i64 a0, .int .i64 a1] w fun e w' => e = .returned (.int .i64 r) ∧ Below w.heap.size w w' := by
  have ht : (walk Try.prog (ctOf t_cmp_Compare_int64) noL 100000 64 [.int .i64 (.s a0), .int .i64 (.s a1)] [] 0).opt r_i64.dec = cmp_Compare_int.f a0 a1 := by kernel_rfl
  exact calls_of named mixed t_cmp_Compare_int64_ok.ct noL_ok ht h (by kernel_rfl) (by kernel_rfl) w fun _ _ _ _ _ hd hx => r_i64.ok hd hx
noncomputable def cmp_Compare_int.c : Entry := fun args _ _ => aI .i64 args fun a0 args => aI .i64 args fun a1 args => aN args (some { o := cmp_Compare_int.f a0 a1, enc := r_i64.enc })
theorem cmp_Compare_int.ok : EntryOK Try.prog 64 cmp_Compare_int.c := by
  intro args H hn c h _ r hr ρ w xs hx hrel
  unfold cmp_Compare_int.c at h
  obtain ⟨a0, xs, args, rfl, hx, h⟩ := aI_ok h hx
  obtain ⟨a1, xs, args, rfl, hx, h⟩ := aI_ok h hx
  obtain ⟨rfl, h⟩ := aN_ok h hx
  cases h
  refine (cmp_Compare_int.calls a0 a1 r w hr).mono ?_
  rintro e w' ⟨rfl, hb⟩
  exact ⟨_, ρ, rfl, r_i64.enc_rel ρ r, ⟨rfl, hrel.below hb⟩, Eff.of_below hb, fun _ h => by cases h⟩
noncomputable def t_cmp_Compare_int : List (Nat × Entry) := (64, cmp_Compare_int.c) :: t_cmp_Compare_int64
theorem t_cmp_Compare_int_ok : TabOK Try.prog t_cmp_Compare_int := TabOK.cons cmp_Compare_int.ok t_cmp_Compare_int64_ok
def g_i64x6 (args : List AV) (f : Int → Int → Int → Int → Int → Int → List AV → Option Con) : Option Con := aG args fun l r => aI .i64 l fun x0 l => aI .i64 l fun x1 l => aI .i64 l fun x2 l => aI .i64 l fun x3 l => aI .i64 l fun x4 l => aI .i64 l fun x5 l => aN l (f x0 x1 x2 x3 x4 x5 r)
theorem g_i64x6_ok {ρ : Pl} {args : List AV} {xs : List Value} {c : Con} {f : Int → Int → Int → Int → Int → Int → List AV → Option Con} (h : g_i64x6 args f = some c) (hx : AV.relL ρ args xs) :
    ∃ x0 x1 x2 x3 x4 x5 xs' l, xs = .agg #[.int .i64 x0, .int .i64 x1, .int .i64 x2, .int .i64 x3, .int .i64 x4, .int .i64 x5] :: xs' ∧ AV.relL ρ l xs' ∧ f x0 x1 x2 x3 x4 x5 l = some c := by
  unfold g_i64x6 at h
  obtain ⟨vs, xs', l, r, rfl, hl, hr, h⟩ := aG_ok h hx
  clear hx
  obtain ⟨x0, vs, l, rfl, hl, h⟩ := aI_ok h hl
  obtain ⟨x1, vs, l, rfl, hl, h⟩ := aI_ok h hl
  obtain ⟨x2, vs, l, rfl, hl, h⟩ := aI_ok h hl
  obtain ⟨x3, vs, l, rfl, hl, h⟩ := aI_ok h hl
  obtain ⟨x4, vs, l, rfl, hl, h⟩ := aI_ok h hl
  obtain ⟨x5, vs, l, rfl, hl, h⟩ := aI_ok h hl
  obtain ⟨rfl, h⟩ := aN_ok h hl
  exact ⟨x0, x1, x2, x3, x4, x5, xs', r, rfl, hr, h⟩
def agenda_before.f (a0_0 : Int) (a0_1 : Int) (a0_2 : Int) (a0_3 : Int) (a0_4 : Int) (a0_5 : Int) (a1_0 : Int) (a1_1 : Int) (a1_2 : Int) (a1_3 : Int) (a1_4 : Int) (a1_5 : Int) : Option Int :=
  ((cmp_Compare_int64.f a0_0 a1_0).bind fun t0 => ((cmp_Compare_int.f a0_1 a1_1).bind fun t1 => ((cmp_Compare_int.f a0_2 a1_2).bind fun t2 => ((cmp_Compare_int.f a0_3 a1_3).bind fun t3 => ((cmp_Compare_int.f a0_5 a1_5).bind fun t4 => (if t0 ≠ 0 then some t0 else (if t1 ≠ 0 then some t1 else (if t2 ≠ 0 then some t2 else (if t3 ≠ 0 then some t3 else (if t4 ≠ 0 then some t4 else some 0))))))))))
set_option maxRecDepth 100000 in
theorem agenda_before.calls (a0_0 : Int) (a0_1 : Int) (a0_2 : Int) (a0_3 : Int) (a0_4 : Int) (a0_5 : Int) (a1_0 : Int) (a1_1 : Int) (a1_2 : Int) (a1_3 : Int) (a1_4 : Int) (a1_5 : Int) (r : Int) (w : World) (h : agenda_before.f a0_0 a0_1 a0_2 a0_3 a0_4 a0_5 a1_0 a1_1 a1_2 a1_3 a1_4 a1_5 = some r) :
    Calls Try.prog 61 #[.agg #[.int .i64 a0_0, .int .i64 a0_1, .int .i64 a0_2, .int .i64 a0_3, .int .i64 a0_4, .int .i64 a0_5], .agg #[.int .i64 a1_0, .int .i64 a1_1, .int .i64 a1_2, .int .i64 a1_3, .int .i64 a1_4, .int .i64 a1_5]] w fun e w' => e = .returned (.int .i64 r) ∧ Below w.heap.size w w' := by
  have ht : (walk Try.prog (ctOf t_cmp_Compare_int) noL 100000 61 [.agg [.int .i64 (.s a0_0), .int .i64 (.s a0_1), .int .i64 (.s a0_2), .int .i64 (.s a0_3), .int .i64 (.s a0_4), .int .i64 (.s a0_5)], .agg [.int .i64 (.s a1_0), .int .i64 (.s a1_1), .int .i64 (.s a1_2), .int .i64 (.s a1_3), .int .i64 (.s a1_4), .int .i64 (.s a1_5)]] [] 0).opt r_i64.dec = agenda_before.f a0_0 a0_1 a0_2 a0_3 a0_4 a0_5 a1_0 a1_1 a1_2 a1_3 a1_4 a1_5 := by kernel_rfl
  exact calls_of named mixed t_cmp_Compare_int_ok.ct noL_ok ht h (by kernel_rfl) (by kernel_rfl) w fun _ _ _ _ _ hd hx => r_i64.ok hd hx
noncomputable def agenda_before.c : Entry := fun args _ _ => g_i64x6 args fun a0_0 a0_1 a0_2 a0_3 a0_4 a0_5 args => g_i64x6 args fun a1_0 a1_1 a1_2 a1_3 a1_4 a1_5 args => aN args (some { o := agenda_before.f a0_0 a0_1 a0_2 a0_3 a0_4 a0_5 a1_0 a1_1 a1_2 a1_3 a1_4 a1_5, enc := r_i64.enc })
theorem agenda_before.ok : EntryOK Try.prog 61 agenda_before.c := by
  intro args H hn c h _ r hr ρ w xs hx hrel
  unfold agenda_before.c at h
  obtain ⟨a0_0, a0_1, a0_2, a0_3, a0_4, a0_5, xs, args, rfl, hx, h⟩ := g_i64x6_ok h hx
  obtain ⟨a1_0, a1_1, a1_2, a1_3, a1_4, a1_5, xs, args, rfl, hx, h⟩ := g_i64x6_ok h hx
  obtain ⟨rfl, h⟩ := aN_ok h hx
  cases h
  refine (agenda_before.calls a0_0 a0_1 a0_2 a0_3 a0_4 a0_5 a1_0 a1_1 a1_2 a1_3 a1_4 a1_5 r w hr).mono ?_
  rintro e w' ⟨rfl, hb⟩
  exact ⟨_, ρ, rfl, r_i64.enc_rel ρ r, ⟨rfl, hrel.below hb⟩, Eff.of_below hb, fun _ h => by cases h⟩
noncomputable def t_agenda_before : List (Nat × Entry) := (61, agenda_before.c) :: t_cmp_Compare_int
theorem t_agenda_before_ok : TabOK Try.prog t_agenda_before := TabOK.cons agenda_before.ok t_cmp_Compare_int_ok
def r_bool.dec : AV → Heap → Nat → Option Bool := fun v _ _ => dB v
def r_bool.enc (r : Bool) : AV := .bool (.s r)
abbrev r_bool.val (r : Bool) : Value := .bool r
theorem r_bool.enc_rel (ρ : Pl) (r : Bool) : (r_bool.enc r).rel ρ (r_bool.val r) := AV.flat_rel _ rfl
theorem r_bool.ok {v : AV} {H : Heap} {hn : Nat} {r : Bool} {ρ : Pl} {x : Value} (h : r_bool.dec v H hn = some r) (hx : v.rel ρ x) : x = r_bool.val r := by
  unfold r_bool.dec at h
  exact dB_ok h hx
def g_i64x5 (args : List AV) (f : Int → Int → Int → Int → Int → List AV → Option Con) : Option Con := aG args fun l r => aI .i64 l fun x0 l => aI .i64 l fun x1 l => aI .i64 l fun x2 l => aI .i64 l fun x3 l => aI .i64 l fun x4 l => aN l (f x0 x1 x2 x3 x4 r)
theorem g_i64x5_ok {ρ : Pl} {args : List AV} {xs : List Value} {c : Con} {f : Int → Int → Int → Int → Int → List AV → Option Con} (h : g_i64x5 args f = some c) (hx : AV.relL ρ args xs) :
    ∃ x0 x1 x2 x3 x4 xs' l, xs = .agg #[.int .i64 x0, .int .i64 x1, .int .i64 x2, .int .i64 x3, .int .i64 x4] :: xs' ∧ AV.relL ρ l xs' ∧ f x0 x1 x2 x3 x4 l = some c := by
  unfold g_i64x5 at h
  obtain ⟨vs, xs', l, r, rfl, hl, hr, h⟩ := aG_ok h hx
  clear hx
  obtain ⟨x0, vs, l, rfl, hl, h⟩ := aI_ok h hl
  obtain ⟨x1, vs, l, rfl, hl, h⟩ := aI_ok h hl
  obtain ⟨x2, vs, l, rfl, hl, h⟩ := aI_ok h hl
  obtain ⟨x3, vs, l, rfl, hl, h⟩ := aI_ok h hl
  obtain ⟨x4, vs, l, rfl, hl, h⟩ := aI_ok h hl
  obtain ⟨rfl, h⟩ := aN_ok h hl
  exact ⟨x0, x1, x2, x3, x4, xs', r, rfl, hr, h⟩
def vespersref10_After.f (a0_0 : Int) (a0_1 : Int) (a0_2 : Int) (a0_3 : Int) (a0_4 : Int) (a1_0 : Int) (a1_1 : Int) (a1_2 : Int) (a1_3 : Int) (a1_4 : Int) : Option Bool :=
  (if a0_0 ≠ a1_0 then some (decide (a0_0 > a1_0)) else (if a0_1 ≠ a1_1 then some (decide (a0_1 > a1_1)) else (if a0_2 ≠ a1_2 then some (decide (a0_2 > a1_2)) else some (decide (a0_3 > a1_3)))))
set_option maxRecDepth 100000 in
theorem vespersref10_After.calls (a0_0 : Int) (a0_1 : Int) (a0_2 : Int) (a0_3 : Int) (a0_4 : Int) (a1_0 : Int) (a1_1 : Int) (a1_2 : Int) (a1_3 : Int) (a1_4 : Int) (r : Bool) (w : World) (h : vespersref10_After.f a0_0 a0_1 a0_2 a0_3 a0_4 a1_0 a1_1 a1_2 a1_3 a1_4 = some r) :
    Calls Try.prog 14 #[.agg #[.int .i64 a0_0, .int .i64 a0_1, .int .i64 a0_2, .int .i64 a0_3, .int .i64 a0_4], .agg #[.int .i64 a1_0, .int .i64 a1_1, .int .i64 a1_2, .int .i64 a1_3, .int .i64 a1_4]] w fun e w' => e = .returned (.bool r) ∧ Below w.heap.size w w' := by
  have ht : (walk Try.prog (ctOf t_agenda_before) noL 100000 14 [.agg [.int .i64 (.s a0_0), .int .i64 (.s a0_1), .int .i64 (.s a0_2), .int .i64 (.s a0_3), .int .i64 (.s a0_4)], .agg [.int .i64 (.s a1_0), .int .i64 (.s a1_1), .int .i64 (.s a1_2), .int .i64 (.s a1_3), .int .i64 (.s a1_4)]] [] 0).opt r_bool.dec = vespersref10_After.f a0_0 a0_1 a0_2 a0_3 a0_4 a1_0 a1_1 a1_2 a1_3 a1_4 := by kernel_rfl
  exact calls_of named mixed t_agenda_before_ok.ct noL_ok ht h (by kernel_rfl) (by kernel_rfl) w fun _ _ _ _ _ hd hx => r_bool.ok hd hx
noncomputable def vespersref10_After.c : Entry := fun args _ _ => g_i64x5 args fun a0_0 a0_1 a0_2 a0_3 a0_4 args => g_i64x5 args fun a1_0 a1_1 a1_2 a1_3 a1_4 args => aN args (some { o := vespersref10_After.f a0_0 a0_1 a0_2 a0_3 a0_4 a1_0 a1_1 a1_2 a1_3 a1_4, enc := r_bool.enc })
theorem vespersref10_After.ok : EntryOK Try.prog 14 vespersref10_After.c := by
  intro args H hn c h _ r hr ρ w xs hx hrel
  unfold vespersref10_After.c at h
  obtain ⟨a0_0, a0_1, a0_2, a0_3, a0_4, xs, args, rfl, hx, h⟩ := g_i64x5_ok h hx
  obtain ⟨a1_0, a1_1, a1_2, a1_3, a1_4, xs, args, rfl, hx, h⟩ := g_i64x5_ok h hx
  obtain ⟨rfl, h⟩ := aN_ok h hx
  cases h
  refine (vespersref10_After.calls a0_0 a0_1 a0_2 a0_3 a0_4 a1_0 a1_1 a1_2 a1_3 a1_4 r w hr).mono ?_
  rintro e w' ⟨rfl, hb⟩
  exact ⟨_, ρ, rfl, r_bool.enc_rel ρ r, ⟨rfl, hrel.below hb⟩, Eff.of_below hb, fun _ h => by cases h⟩
noncomputable def t_vespersref10_After : List (Nat × Entry) := (14, vespersref10_After.c) :: t_agenda_before
theorem t_vespersref10_After_ok : TabOK Try.prog t_vespersref10_After := TabOK.cons vespersref10_After.ok t_agenda_before_ok
def r_i64x5.dec : AV → Heap → Nat → Option (Int × Int × Int × Int × Int)
  | .agg [x0, x1, x2, x3, x4], _, _ => (dI .i64 x0).bind fun n0 => (dI .i64 x1).bind fun n1 => (dI .i64 x2).bind fun n2 => (dI .i64 x3).bind fun n3 => (dI .i64 x4).bind fun n4 => some (n0, n1, n2, n3, n4)
  | _, _, _ => none
def r_i64x5.enc (r : Int × Int × Int × Int × Int) : AV := .agg [.int .i64 (.s r.1), .int .i64 (.s r.2.1), .int .i64 (.s r.2.2.1), .int .i64 (.s r.2.2.2.1), .int .i64 (.s r.2.2.2.2)]
abbrev r_i64x5.val (r : Int × Int × Int × Int × Int) : Value := .agg #[.int .i64 r.1, .int .i64 r.2.1, .int .i64 r.2.2.1, .int .i64 r.2.2.2.1, .int .i64 r.2.2.2.2]
theorem r_i64x5.enc_rel (ρ : Pl) (r : Int × Int × Int × Int × Int) : (r_i64x5.enc r).rel ρ (r_i64x5.val r) := AV.flat_rel _ rfl
theorem r_i64x5.ok {v : AV} {H : Heap} {hn : Nat} {r : Int × Int × Int × Int × Int} {ρ : Pl} {x : Value} (h : r_i64x5.dec v H hn = some r) (hx : v.rel ρ x) : x = r_i64x5.val r := by
  unfold r_i64x5.dec at h
  split at h
  · obtain ⟨n0, e0, h⟩ := Option.bind_eq_some_iff.1 h
    obtain ⟨n1, e1, h⟩ := Option.bind_eq_some_iff.1 h
    obtain ⟨n2, e2, h⟩ := Option.bind_eq_some_iff.1 h
    obtain ⟨n3, e3, h⟩ := Option.bind_eq_some_iff.1 h
    obtain ⟨n4, e4, h⟩ := Option.bind_eq_some_iff.1 h
    cases h
    obtain ⟨z, hx, rfl⟩ := hx
    obtain ⟨y1, y2, hy1, hx, rfl⟩ := hx
    obtain rfl := dI_ok e0 hy1
    obtain ⟨y3, y4, hy3, hx, rfl⟩ := hx
    obtain rfl := dI_ok e1 hy3
    obtain ⟨y5, y6, hy5, hx, rfl⟩ := hx
    obtain rfl := dI_ok e2 hy5
    obtain ⟨y7, y8, hy7, hx, rfl⟩ := hx
    obtain rfl := dI_ok e3 hy7
    obtain ⟨y9, y10, hy9, hx, rfl⟩ := hx
    obtain rfl := dI_ok e4 hy9
    obtain rfl := (show _ = [] from hx)
    rfl
  · cases h
def vesperslaw10_at.f (a0 : Int) (a1 : Int) : Option (Int × Int × Int × Int × Int) :=
  some (a0, a1, 0, 0, 0)
set_option maxRecDepth 100000 in
theorem vesperslaw10_at.calls (a0 : Int) (a1 : Int) (r1 : Int) (r2 : Int) (r3 : Int) (r4 : Int) (r5 : Int) (w : World) (h : vesperslaw10_at.f a0 a1 = some (r1, r2, r3, r4, r5)) :
    Calls Try.prog 23 #[.int .i64 a0, .int .i64 a1] w fun e w' => e = .returned (.agg #[.int .i64 r1, .int .i64 r2, .int .i64 r3, .int .i64 r4, .int .i64 r5]) ∧ Below w.heap.size w w' := by
  have ht : (walk Try.prog (ctOf t_vespersref10_After) noL 100000 23 [.int .i64 (.s a0), .int .i64 (.s a1)] [] 0).opt r_i64x5.dec = vesperslaw10_at.f a0 a1 := by kernel_rfl
  exact calls_of named mixed t_vespersref10_After_ok.ct noL_ok ht h (by kernel_rfl) (by kernel_rfl) w fun _ _ _ _ _ hd hx => r_i64x5.ok hd hx
noncomputable def vesperslaw10_at.c : Entry := fun args _ _ => aI .i64 args fun a0 args => aI .i64 args fun a1 args => aN args (some { o := vesperslaw10_at.f a0 a1, enc := r_i64x5.enc })
theorem vesperslaw10_at.ok : EntryOK Try.prog 23 vesperslaw10_at.c := by
  intro args H hn c h _ r hr ρ w xs hx hrel
  unfold vesperslaw10_at.c at h
  obtain ⟨a0, xs, args, rfl, hx, h⟩ := aI_ok h hx
  obtain ⟨a1, xs, args, rfl, hx, h⟩ := aI_ok h hx
  obtain ⟨rfl, h⟩ := aN_ok h hx
  cases h
  obtain ⟨r1, r2, r3, r4, r5⟩ := r
  refine (vesperslaw10_at.calls a0 a1 r1 r2 r3 r4 r5 w hr).mono ?_
  rintro e w' ⟨rfl, hb⟩
  exact ⟨_, ρ, rfl, r_i64x5.enc_rel ρ (r1, r2, r3, r4, r5), ⟨rfl, hrel.below hb⟩, Eff.of_below hb, fun _ h => by cases h⟩
noncomputable def t_vesperslaw10_at : List (Nat × Entry) := (23, vesperslaw10_at.c) :: t_vespersref10_After
theorem t_vesperslaw10_at_ok : TabOK Try.prog t_vesperslaw10_at := TabOK.cons vesperslaw10_at.ok t_vespersref10_After_ok
noncomputable abbrev tab_S0 : List (Nat × Entry) := t_vesperslaw10_at
theorem tab_S0_ok : TabOK Try.prog tab_S0 := t_vesperslaw10_at_ok
end
end Go.Proofs.Ytgkheobpnjmgdaa.S
