/- Contracts by the symbolic walk: rate_Check, rate_clock_gone, rate_clock_ticks, rate_Reads, rate_Keeps, rate_When, rate_Set, vesperslaw29_alive, vesperslaw29_BoundsSet. -/
import Derived.Test.YtgoilclgehipmaaProg
import Derived.Test.YtgoilclgehipmaaSXk
import Derived.Test.YtgoilclgehipmaaS0
namespace Go.Proofs.Ytgoilclgehipmaa.S
open Go Go.RowKit Go.Proofs.Ytgoilclgehipmaa.SX Go.Proofs
set_option linter.unusedVariables false
noncomputable section
def g_i64x4 (args : List AV) (f : Int → Int → Int → Int → List AV → Option Con) : Option Con := aG args fun l r => aI .i64 l fun x0 l => aI .i64 l fun x1 l => aI .i64 l fun x2 l => aI .i64 l fun x3 l => aN l (f x0 x1 x2 x3 r)
theorem g_i64x4_ok {ρ : Pl} {args : List AV} {xs : List Value} {c : Con} {f : Int → Int → Int → Int → List AV → Option Con} (h : g_i64x4 args f = some c) (hx : AV.relL ρ args xs) :
    ∃ x0 x1 x2 x3 xs' l, xs = .agg #[.int .i64 x0, .int .i64 x1, .int .i64 x2, .int .i64 x3] :: xs' ∧ AV.relL ρ l xs' ∧ f x0 x1 x2 x3 l = some c := by
  unfold g_i64x4 at h
  obtain ⟨vs, xs', l, r, rfl, hl, hr, h⟩ := aG_ok h hx
  clear hx
  obtain ⟨x0, vs, l, rfl, hl, h⟩ := aI_ok h hl
  obtain ⟨x1, vs, l, rfl, hl, h⟩ := aI_ok h hl
  obtain ⟨x2, vs, l, rfl, hl, h⟩ := aI_ok h hl
  obtain ⟨x3, vs, l, rfl, hl, h⟩ := aI_ok h hl
  obtain ⟨rfl, h⟩ := aN_ok h hl
  exact ⟨x0, x1, x2, x3, xs', r, rfl, hr, h⟩
def rate_Check.f (a0_0 : Int) (a0_1 : Int) (a0_2 : Int) (a0_3 : Int) : Option Int :=
  (if a0_1 ≥ 1 then (if (!decide (a0_1 ≤ 65536)) = true then some 60 else (if a0_0 ≥ 1 then (if (!decide (a0_0 ≤ wrap64 (2 * a0_1))) = true then some 60 else (if a0_2 ≥ 0 then (if (!decide (a0_2 ≤ 4294967296)) = true then some 60 else (if a0_3 ≥ -4294967296 then (if (!decide (a0_3 ≤ 4294967296)) = true then some 60 else some 0) else some 60)) else some 60)) else some 60)) else some 60)
set_option maxRecDepth 100000 in
theorem rate_Check.calls (a0_0 : Int) (a0_1 : Int) (a0_2 : Int) (a0_3 : Int) (r : Int) (w : World) (h : rate_Check.f a0_0 a0_1 a0_2 a0_3 = some r) :
    Calls Try.prog 52 #[.agg #[.int .i64 a0_0, .int .i64 a0_1, .int .i64 a0_2, .int .i64 a0_3]] w fun e w' => e = .returned (.int .i64 r) ∧ Below w.heap.size w w' := by
  have ht : (walk Try.prog (ctOf tab_S0) noL 100000 52 [.agg [.int .i64 (.s a0_0), .int .i64 (.s a0_1), .int .i64 (.s a0_2), .int .i64 (.s a0_3)]] [] 0).opt r_i64.dec = rate_Check.f a0_0 a0_1 a0_2 a0_3 := by kernel_rfl
  exact calls_of named mixed tab_S0_ok.ct noL_ok ht h (by kernel_rfl) (by kernel_rfl) w fun _ _ _ _ _ hd hx => r_i64.ok hd hx
noncomputable def rate_Check.c : Entry := fun args _ => g_i64x4 args fun a0_0 a0_1 a0_2 a0_3 args => aN args (some { o := rate_Check.f a0_0 a0_1 a0_2 a0_3, enc := r_i64.enc })
theorem rate_Check.ok : EntryOK Try.prog 52 rate_Check.c := by
  intro args H c h r hr ρ hn w xs hx hrel
  unfold rate_Check.c at h
  obtain ⟨a0_0, a0_1, a0_2, a0_3, xs, args, rfl, hx, h⟩ := g_i64x4_ok h hx
  obtain ⟨rfl, h⟩ := aN_ok h hx
  cases h
  refine (rate_Check.calls a0_0 a0_1 a0_2 a0_3 r w hr).mono ?_
  rintro e w' ⟨rfl, hb⟩
  exact ⟨_, rfl, r_i64.enc_rel ρ r, hrel.below hb, Eff.of_below hb⟩
noncomputable def t_rate_Check : List (Nat × Entry) := (52, rate_Check.c) :: tab_S0
theorem t_rate_Check_ok : TabOK Try.prog t_rate_Check := TabOK.cons rate_Check.ok tab_S0_ok
def rate_clock_gone.f (a0_0 : Int) (a0_1 : Int) (a0_2 : Int) (a0_3 : Int) (a1 : Int) : Option Int :=
  (if a0_1 = 0 then none else some (wrap64 ((wrap64 (a0_0 * a1)).tdiv a0_1)))
set_option maxRecDepth 100000 in
theorem rate_clock_gone.calls (a0_0 : Int) (a0_1 : Int) (a0_2 : Int) (a0_3 : Int) (a1 : Int) (r : Int) (w : World) (h : rate_clock_gone.f a0_0 a0_1 a0_2 a0_3 a1 = some r) :
    Calls Try.prog 53 #[.agg #[.int .i64 a0_0, .int .i64 a0_1, .int .i64 a0_2, .int .i64 a0_3], .int .i64 a1] w fun e w' => e = .returned (.int .i64 r) ∧ Below w.heap.size w w' := by
  have ht : (walk Try.prog (ctOf t_rate_Check) noL 100000 53 [.agg [.int .i64 (.s a0_0), .int .i64 (.s a0_1), .int .i64 (.s a0_2), .int .i64 (.s a0_3)], .int .i64 (.s a1)] [] 0).opt r_i64.dec = rate_clock_gone.f a0_0 a0_1 a0_2 a0_3 a1 := by kernel_rfl
  exact calls_of named mixed t_rate_Check_ok.ct noL_ok ht h (by kernel_rfl) (by kernel_rfl) w fun _ _ _ _ _ hd hx => r_i64.ok hd hx
noncomputable def rate_clock_gone.c : Entry := fun args _ => g_i64x4 args fun a0_0 a0_1 a0_2 a0_3 args => aI .i64 args fun a1 args => aN args (some { o := rate_clock_gone.f a0_0 a0_1 a0_2 a0_3 a1, enc := r_i64.enc })
theorem rate_clock_gone.ok : EntryOK Try.prog 53 rate_clock_gone.c := by
  intro args H c h r hr ρ hn w xs hx hrel
  unfold rate_clock_gone.c at h
  obtain ⟨a0_0, a0_1, a0_2, a0_3, xs, args, rfl, hx, h⟩ := g_i64x4_ok h hx
  obtain ⟨a1, xs, args, rfl, hx, h⟩ := aI_ok h hx
  obtain ⟨rfl, h⟩ := aN_ok h hx
  cases h
  refine (rate_clock_gone.calls a0_0 a0_1 a0_2 a0_3 a1 r w hr).mono ?_
  rintro e w' ⟨rfl, hb⟩
  exact ⟨_, rfl, r_i64.enc_rel ρ r, hrel.below hb, Eff.of_below hb⟩
noncomputable def t_rate_clock_gone : List (Nat × Entry) := (53, rate_clock_gone.c) :: t_rate_Check
theorem t_rate_clock_gone_ok : TabOK Try.prog t_rate_clock_gone := TabOK.cons rate_clock_gone.ok t_rate_Check_ok
def rate_clock_ticks.f (a0_0 : Int) (a0_1 : Int) (a0_2 : Int) (a0_3 : Int) (a1 : Int) : Option Int :=
  (if a0_0 = 0 then none else some (wrap64 ((wrap64 (wrap64 (wrap64 (a1 * a0_1) + a0_0) - 1)).tdiv a0_0)))
set_option maxRecDepth 100000 in
theorem rate_clock_ticks.calls (a0_0 : Int) (a0_1 : Int) (a0_2 : Int) (a0_3 : Int) (a1 : Int) (r : Int) (w : World) (h : rate_clock_ticks.f a0_0 a0_1 a0_2 a0_3 a1 = some r) :
    Calls Try.prog 60 #[.agg #[.int .i64 a0_0, .int .i64 a0_1, .int .i64 a0_2, .int .i64 a0_3], .int .i64 a1] w fun e w' => e = .returned (.int .i64 r) ∧ Below w.heap.size w w' := by
  have ht : (walk Try.prog (ctOf t_rate_clock_gone) noL 100000 60 [.agg [.int .i64 (.s a0_0), .int .i64 (.s a0_1), .int .i64 (.s a0_2), .int .i64 (.s a0_3)], .int .i64 (.s a1)] [] 0).opt r_i64.dec = rate_clock_ticks.f a0_0 a0_1 a0_2 a0_3 a1 := by kernel_rfl
  exact calls_of named mixed t_rate_clock_gone_ok.ct noL_ok ht h (by kernel_rfl) (by kernel_rfl) w fun _ _ _ _ _ hd hx => r_i64.ok hd hx
noncomputable def rate_clock_ticks.c : Entry := fun args _ => g_i64x4 args fun a0_0 a0_1 a0_2 a0_3 args => aI .i64 args fun a1 args => aN args (some { o := rate_clock_ticks.f a0_0 a0_1 a0_2 a0_3 a1, enc := r_i64.enc })
theorem rate_clock_ticks.ok : EntryOK Try.prog 60 rate_clock_ticks.c := by
  intro args H c h r hr ρ hn w xs hx hrel
  unfold rate_clock_ticks.c at h
  obtain ⟨a0_0, a0_1, a0_2, a0_3, xs, args, rfl, hx, h⟩ := g_i64x4_ok h hx
  obtain ⟨a1, xs, args, rfl, hx, h⟩ := aI_ok h hx
  obtain ⟨rfl, h⟩ := aN_ok h hx
  cases h
  refine (rate_clock_ticks.calls a0_0 a0_1 a0_2 a0_3 a1 r w hr).mono ?_
  rintro e w' ⟨rfl, hb⟩
  exact ⟨_, rfl, r_i64.enc_rel ρ r, hrel.below hb, Eff.of_below hb⟩
noncomputable def t_rate_clock_ticks : List (Nat × Entry) := (60, rate_clock_ticks.c) :: t_rate_clock_gone
theorem t_rate_clock_ticks_ok : TabOK Try.prog t_rate_clock_ticks := TabOK.cons rate_clock_ticks.ok t_rate_clock_gone_ok
def rate_Reads.f (a0_0 : Int) (a0_1 : Int) (a0_2 : Int) (a0_3 : Int) (a1 : Int) : Option (Int × Int) :=
  ((rate_Check.f a0_0 a0_1 a0_2 a0_3).bind fun t0 => (if t0 ≠ 0 then some (0, 60) else (if a1 < a0_2 then some (0, 60) else (if a1 > 4294967296 then some (0, 60) else ((rate_clock_gone.f a0_0 a0_1 a0_2 a0_3 (wrap64 (a1 - a0_2))).bind fun t1 => some (wrap64 (t1 + a0_3), 0))))))
set_option maxRecDepth 100000 in
theorem rate_Reads.calls (a0_0 : Int) (a0_1 : Int) (a0_2 : Int) (a0_3 : Int) (a1 : Int) (r1 : Int) (r2 : Int) (w : World) (h : rate_Reads.f a0_0 a0_1 a0_2 a0_3 a1 = some (r1, r2)) :
    Calls Try.prog 28 #[.agg #[.int .i64 a0_0, .int .i64 a0_1, .int .i64 a0_2, .int .i64 a0_3], .int .i64 a1] w fun e w' => e = .returned (.tuple #[.int .i64 r1, .int .i64 r2]) ∧ Below w.heap.size w w' := by
  have ht : (walk Try.prog (ctOf t_rate_clock_ticks) noL 100000 28 [.agg [.int .i64 (.s a0_0), .int .i64 (.s a0_1), .int .i64 (.s a0_2), .int .i64 (.s a0_3)], .int .i64 (.s a1)] [] 0).opt r_i64_i64.dec = rate_Reads.f a0_0 a0_1 a0_2 a0_3 a1 := by kernel_rfl
  exact calls_of named mixed t_rate_clock_ticks_ok.ct noL_ok ht h (by kernel_rfl) (by kernel_rfl) w fun _ _ _ _ _ hd hx => r_i64_i64.ok hd hx
noncomputable def rate_Reads.c : Entry := fun args _ => g_i64x4 args fun a0_0 a0_1 a0_2 a0_3 args => aI .i64 args fun a1 args => aN args (some { o := rate_Reads.f a0_0 a0_1 a0_2 a0_3 a1, enc := r_i64_i64.enc })
theorem rate_Reads.ok : EntryOK Try.prog 28 rate_Reads.c := by
  intro args H c h r hr ρ hn w xs hx hrel
  unfold rate_Reads.c at h
  obtain ⟨a0_0, a0_1, a0_2, a0_3, xs, args, rfl, hx, h⟩ := g_i64x4_ok h hx
  obtain ⟨a1, xs, args, rfl, hx, h⟩ := aI_ok h hx
  obtain ⟨rfl, h⟩ := aN_ok h hx
  cases h
  obtain ⟨r1, r2⟩ := r
  refine (rate_Reads.calls a0_0 a0_1 a0_2 a0_3 a1 r1 r2 w hr).mono ?_
  rintro e w' ⟨rfl, hb⟩
  exact ⟨_, rfl, r_i64_i64.enc_rel ρ (r1, r2), hrel.below hb, Eff.of_below hb⟩
noncomputable def t_rate_Reads : List (Nat × Entry) := (28, rate_Reads.c) :: t_rate_clock_ticks
theorem t_rate_Reads_ok : TabOK Try.prog t_rate_Reads := TabOK.cons rate_Reads.ok t_rate_clock_ticks_ok
def g_i64x2 (args : List AV) (f : Int → Int → List AV → Option Con) : Option Con := aG args fun l r => aI .i64 l fun x0 l => aI .i64 l fun x1 l => aN l (f x0 x1 r)
theorem g_i64x2_ok {ρ : Pl} {args : List AV} {xs : List Value} {c : Con} {f : Int → Int → List AV → Option Con} (h : g_i64x2 args f = some c) (hx : AV.relL ρ args xs) :
    ∃ x0 x1 xs' l, xs = .agg #[.int .i64 x0, .int .i64 x1] :: xs' ∧ AV.relL ρ l xs' ∧ f x0 x1 l = some c := by
  unfold g_i64x2 at h
  obtain ⟨vs, xs', l, r, rfl, hl, hr, h⟩ := aG_ok h hx
  clear hx
  obtain ⟨x0, vs, l, rfl, hl, h⟩ := aI_ok h hl
  obtain ⟨x1, vs, l, rfl, hl, h⟩ := aI_ok h hl
  obtain ⟨rfl, h⟩ := aN_ok h hl
  exact ⟨x0, x1, xs', r, rfl, hr, h⟩
def rate_Keeps.f (a0_0 : Int) (a0_1 : Int) (a1 : Int) : Option Int :=
  ((rate_Check.f a0_0 a0_1 0 0).bind fun t0 => (if t0 ≠ 0 then some 60 else (if a1 < 4 then some 60 else (if a1 > 1048576 then some 60 else (if (!(decide (a0_0 = a0_1) && (decide (a0_1 = a0_1) && true))) = true then (if wrap64 (a1 * if wrap64 (0 - wrap64 (a0_0 - a0_1)) > wrap64 (a0_0 - a0_1) then wrap64 (0 - wrap64 (a0_0 - a0_1)) else wrap64 (a0_0 - a0_1)) > a0_1 then some 60 else some 0) else some 0)))))
set_option maxRecDepth 100000 in
theorem rate_Keeps.calls (a0_0 : Int) (a0_1 : Int) (a1 : Int) (r : Int) (w : World) (h : rate_Keeps.f a0_0 a0_1 a1 = some r) :
    Calls Try.prog 29 #[.agg #[.int .i64 a0_0, .int .i64 a0_1], .int .i64 a1] w fun e w' => e = .returned (.int .i64 r) ∧ Below w.heap.size w w' := by
  have ht : (walk Try.prog (ctOf t_rate_Reads) noL 100000 29 [.agg [.int .i64 (.s a0_0), .int .i64 (.s a0_1)], .int .i64 (.s a1)] [] 0).opt r_i64.dec = rate_Keeps.f a0_0 a0_1 a1 := by kernel_rfl
  exact calls_of named mixed t_rate_Reads_ok.ct noL_ok ht h (by kernel_rfl) (by kernel_rfl) w fun _ _ _ _ _ hd hx => r_i64.ok hd hx
noncomputable def rate_Keeps.c : Entry := fun args _ => g_i64x2 args fun a0_0 a0_1 args => aI .i64 args fun a1 args => aN args (some { o := rate_Keeps.f a0_0 a0_1 a1, enc := r_i64.enc })
theorem rate_Keeps.ok : EntryOK Try.prog 29 rate_Keeps.c := by
  intro args H c h r hr ρ hn w xs hx hrel
  unfold rate_Keeps.c at h
  obtain ⟨a0_0, a0_1, xs, args, rfl, hx, h⟩ := g_i64x2_ok h hx
  obtain ⟨a1, xs, args, rfl, hx, h⟩ := aI_ok h hx
  obtain ⟨rfl, h⟩ := aN_ok h hx
  cases h
  refine (rate_Keeps.calls a0_0 a0_1 a1 r w hr).mono ?_
  rintro e w' ⟨rfl, hb⟩
  exact ⟨_, rfl, r_i64.enc_rel ρ r, hrel.below hb, Eff.of_below hb⟩
noncomputable def t_rate_Keeps : List (Nat × Entry) := (29, rate_Keeps.c) :: t_rate_Reads
theorem t_rate_Keeps_ok : TabOK Try.prog t_rate_Keeps := TabOK.cons rate_Keeps.ok t_rate_Reads_ok
def rate_When.f (a0_0 : Int) (a0_1 : Int) (a0_2 : Int) (a0_3 : Int) (a1 : Int) : Option (Int × Int) :=
  ((rate_Check.f a0_0 a0_1 a0_2 a0_3).bind fun t0 => (if t0 ≠ 0 then some (0, 60) else ((rate_Reads.f a0_0 a0_1 a0_2 a0_3 4294967296).bind fun t1 => (if a1 > t1.fst then some (0, 61) else (if a1 ≤ a0_3 then some (a0_2, 0) else ((rate_clock_ticks.f a0_0 a0_1 a0_2 a0_3 (wrap64 (a1 - a0_3))).bind fun t2 => some (wrap64 (a0_2 + t2), 0)))))))
set_option maxRecDepth 100000 in
theorem rate_When.calls (a0_0 : Int) (a0_1 : Int) (a0_2 : Int) (a0_3 : Int) (a1 : Int) (r1 : Int) (r2 : Int) (w : World) (h : rate_When.f a0_0 a0_1 a0_2 a0_3 a1 = some (r1, r2)) :
    Calls Try.prog 33 #[.agg #[.int .i64 a0_0, .int .i64 a0_1, .int .i64 a0_2, .int .i64 a0_3], .int .i64 a1] w fun e w' => e = .returned (.tuple #[.int .i64 r1, .int .i64 r2]) ∧ Below w.heap.size w w' := by
  have ht : (walk Try.prog (ctOf t_rate_Keeps) noL 100000 33 [.agg [.int .i64 (.s a0_0), .int .i64 (.s a0_1), .int .i64 (.s a0_2), .int .i64 (.s a0_3)], .int .i64 (.s a1)] [] 0).opt r_i64_i64.dec = rate_When.f a0_0 a0_1 a0_2 a0_3 a1 := by kernel_rfl
  exact calls_of named mixed t_rate_Keeps_ok.ct noL_ok ht h (by kernel_rfl) (by kernel_rfl) w fun _ _ _ _ _ hd hx => r_i64_i64.ok hd hx
noncomputable def rate_When.c : Entry := fun args _ => g_i64x4 args fun a0_0 a0_1 a0_2 a0_3 args => aI .i64 args fun a1 args => aN args (some { o := rate_When.f a0_0 a0_1 a0_2 a0_3 a1, enc := r_i64_i64.enc })
theorem rate_When.ok : EntryOK Try.prog 33 rate_When.c := by
  intro args H c h r hr ρ hn w xs hx hrel
  unfold rate_When.c at h
  obtain ⟨a0_0, a0_1, a0_2, a0_3, xs, args, rfl, hx, h⟩ := g_i64x4_ok h hx
  obtain ⟨a1, xs, args, rfl, hx, h⟩ := aI_ok h hx
  obtain ⟨rfl, h⟩ := aN_ok h hx
  cases h
  obtain ⟨r1, r2⟩ := r
  refine (rate_When.calls a0_0 a0_1 a0_2 a0_3 a1 r1 r2 w hr).mono ?_
  rintro e w' ⟨rfl, hb⟩
  exact ⟨_, rfl, r_i64_i64.enc_rel ρ (r1, r2), hrel.below hb, Eff.of_below hb⟩
noncomputable def t_rate_When : List (Nat × Entry) := (33, rate_When.c) :: t_rate_Keeps
theorem t_rate_When_ok : TabOK Try.prog t_rate_When := TabOK.cons rate_When.ok t_rate_Keeps_ok
def r_i64x4_i64.dec : AV → Heap → Nat → Option (Int × Int × Int × Int × Int)
  | .tup [.agg [x0, x1, x2, x3], x4], _, _ => (dI .i64 x0).bind fun n0 => (dI .i64 x1).bind fun n1 => (dI .i64 x2).bind fun n2 => (dI .i64 x3).bind fun n3 => (dI .i64 x4).bind fun n4 => some (n0, n1, n2, n3, n4)
  | _, _, _ => none
def r_i64x4_i64.enc (r : Int × Int × Int × Int × Int) : AV := .tup [.agg [.int .i64 (.s r.1), .int .i64 (.s r.2.1), .int .i64 (.s r.2.2.1), .int .i64 (.s r.2.2.2.1)], .int .i64 (.s r.2.2.2.2)]
abbrev r_i64x4_i64.val (r : Int × Int × Int × Int × Int) : Value := .tuple #[.agg #[.int .i64 r.1, .int .i64 r.2.1, .int .i64 r.2.2.1, .int .i64 r.2.2.2.1], .int .i64 r.2.2.2.2]
theorem r_i64x4_i64.enc_rel (ρ : Pl) (r : Int × Int × Int × Int × Int) : (r_i64x4_i64.enc r).rel ρ (r_i64x4_i64.val r) := AV.flat_rel _ rfl
theorem r_i64x4_i64.ok {v : AV} {H : Heap} {hn : Nat} {r : Int × Int × Int × Int × Int} {ρ : Pl} {x : Value} (h : r_i64x4_i64.dec v H hn = some r) (hx : v.rel ρ x) : x = r_i64x4_i64.val r := by
  unfold r_i64x4_i64.dec at h
  split at h
  · obtain ⟨n0, e0, h⟩ := Option.bind_eq_some_iff.1 h
    obtain ⟨n1, e1, h⟩ := Option.bind_eq_some_iff.1 h
    obtain ⟨n2, e2, h⟩ := Option.bind_eq_some_iff.1 h
    obtain ⟨n3, e3, h⟩ := Option.bind_eq_some_iff.1 h
    obtain ⟨n4, e4, h⟩ := Option.bind_eq_some_iff.1 h
    cases h
    obtain ⟨z, hx, rfl⟩ := hx
    obtain ⟨y1, y2, hy1, hx, rfl⟩ := hx
    obtain ⟨y3, hy1, rfl⟩ := hy1
    obtain ⟨y4, y5, hy4, hy1, rfl⟩ := hy1
    obtain rfl := dI_ok e0 hy4
    obtain ⟨y6, y7, hy6, hy1, rfl⟩ := hy1
    obtain rfl := dI_ok e1 hy6
    obtain ⟨y8, y9, hy8, hy1, rfl⟩ := hy1
    obtain rfl := dI_ok e2 hy8
    obtain ⟨y10, y11, hy10, hy1, rfl⟩ := hy1
    obtain rfl := dI_ok e3 hy10
    obtain rfl := (show _ = [] from hy1)
    obtain ⟨y12, y13, hy12, hx, rfl⟩ := hx
    obtain rfl := dI_ok e4 hy12
    obtain rfl := (show _ = [] from hx)
    rfl
  · cases h
def rate_Set.f (a0_0 : Int) (a0_1 : Int) (a0_2 : Int) (a0_3 : Int) (a1 : Int) : Option (Int × Int × Int × Int × Int) :=
  ((rate_Check.f a0_0 a0_1 a0_2 a0_3).bind fun t0 => (if t0 ≠ 0 then some (0, 0, 0, 0, 60) else (if a1 < -8589934592 then some (0, 0, 0, 0, 60) else (if a1 > 8589934592 then some (0, 0, 0, 0, 60) else ((rate_Check.f a0_0 a0_1 a0_2 (wrap64 (a0_3 + a1))).bind fun t1 => (if t1 ≠ 0 then some (0, 0, 0, 0, t1) else some (a0_0, a0_1, a0_2, wrap64 (a0_3 + a1), 0)))))))
set_option maxRecDepth 100000 in
theorem rate_Set.calls (a0_0 : Int) (a0_1 : Int) (a0_2 : Int) (a0_3 : Int) (a1 : Int) (r1 : Int) (r2 : Int) (r3 : Int) (r4 : Int) (r5 : Int) (w : World) (h : rate_Set.f a0_0 a0_1 a0_2 a0_3 a1 = some (r1, r2, r3, r4, r5)) :
    Calls Try.prog 34 #[.agg #[.int .i64 a0_0, .int .i64 a0_1, .int .i64 a0_2, .int .i64 a0_3], .int .i64 a1] w fun e w' => e = .returned (.tuple #[.agg #[.int .i64 r1, .int .i64 r2, .int .i64 r3, .int .i64 r4], .int .i64 r5]) ∧ Below w.heap.size w w' := by
  have ht : (walk Try.prog (ctOf t_rate_When) noL 100000 34 [.agg [.int .i64 (.s a0_0), .int .i64 (.s a0_1), .int .i64 (.s a0_2), .int .i64 (.s a0_3)], .int .i64 (.s a1)] [] 0).opt r_i64x4_i64.dec = rate_Set.f a0_0 a0_1 a0_2 a0_3 a1 := by kernel_rfl
  exact calls_of named mixed t_rate_When_ok.ct noL_ok ht h (by kernel_rfl) (by kernel_rfl) w fun _ _ _ _ _ hd hx => r_i64x4_i64.ok hd hx
noncomputable def rate_Set.c : Entry := fun args _ => g_i64x4 args fun a0_0 a0_1 a0_2 a0_3 args => aI .i64 args fun a1 args => aN args (some { o := rate_Set.f a0_0 a0_1 a0_2 a0_3 a1, enc := r_i64x4_i64.enc })
theorem rate_Set.ok : EntryOK Try.prog 34 rate_Set.c := by
  intro args H c h r hr ρ hn w xs hx hrel
  unfold rate_Set.c at h
  obtain ⟨a0_0, a0_1, a0_2, a0_3, xs, args, rfl, hx, h⟩ := g_i64x4_ok h hx
  obtain ⟨a1, xs, args, rfl, hx, h⟩ := aI_ok h hx
  obtain ⟨rfl, h⟩ := aN_ok h hx
  cases h
  obtain ⟨r1, r2, r3, r4, r5⟩ := r
  refine (rate_Set.calls a0_0 a0_1 a0_2 a0_3 a1 r1 r2 r3 r4 r5 w hr).mono ?_
  rintro e w' ⟨rfl, hb⟩
  exact ⟨_, rfl, r_i64x4_i64.enc_rel ρ (r1, r2, r3, r4, r5), hrel.below hb, Eff.of_below hb⟩
noncomputable def t_rate_Set : List (Nat × Entry) := (34, rate_Set.c) :: t_rate_When
theorem t_rate_Set_ok : TabOK Try.prog t_rate_Set := TabOK.cons rate_Set.ok t_rate_When_ok
def vesperslaw29_alive.f  : Option Bool :=
  some true
set_option maxRecDepth 100000 in
theorem vesperslaw29_alive.calls (r : Bool) (w : World) (h : vesperslaw29_alive.f = some r) :
    Calls Try.prog 25 #[] w fun e w' => e = .returned (.bool r) ∧ Below w.heap.size w w' := by
  have ht : (walk Try.prog (ctOf []) noL 100000 25 [] [] 0).opt r_bool.dec = vesperslaw29_alive.f := by kernel_rfl
  exact calls_of named mixed (TabOK.nil).ct noL_ok ht h (by kernel_rfl) (by kernel_rfl) w fun _ _ _ _ _ hd hx => r_bool.ok hd hx
noncomputable def vesperslaw29_alive.c : Entry := fun args _ => aN args (some { o := vesperslaw29_alive.f, enc := r_bool.enc })
theorem vesperslaw29_alive.ok : EntryOK Try.prog 25 vesperslaw29_alive.c := by
  intro args H c h r hr ρ hn w xs hx hrel
  unfold vesperslaw29_alive.c at h
  obtain ⟨rfl, h⟩ := aN_ok h hx
  cases h
  refine (vesperslaw29_alive.calls r w hr).mono ?_
  rintro e w' ⟨rfl, hb⟩
  exact ⟨_, rfl, r_bool.enc_rel ρ r, hrel.below hb, Eff.of_below hb⟩
noncomputable def t_vesperslaw29_alive : List (Nat × Entry) := (25, vesperslaw29_alive.c) :: t_rate_Set
theorem t_vesperslaw29_alive_ok : TabOK Try.prog t_vesperslaw29_alive := TabOK.cons vesperslaw29_alive.ok t_rate_Set_ok
abbrev vesperslaw29_BoundsSet.X0 := List Int × List Int × Bool × Int × Int × Int × Int × Int × Int × Int × Int × Int × Int × Int × Int × Int × Int × Int × Int × Int × Int × Int × Int × Int × Int × Int × Int × Int
def vesperslaw29_BoundsSet.decX0 : List AV → Option vesperslaw29_BoundsSet.X0
  | [y0, y1, y2, y3, y4, y5, y6, y7, y8, y9, y10, y11, y12, y13, y14, y15, y16, y17, y18, y19, y20, y21, y22, y23, y24, y25, y26, y27] => (dL 0 .i64 y0).bind fun n0 => (dL 1 .u16 y1).bind fun n1 => (dB y2).bind fun n2 => (dI .i64 y3).bind fun n3 => (dI .i64 y4).bind fun n4 => (dI .i64 y5).bind fun n5 => (dI .i64 y6).bind fun n6 => (dI .i64 y7).bind fun n7 => (dI .i64 y8).bind fun n8 => (dI .i64 y9).bind fun n9 => (dI .i64 y10).bind fun n10 => (dI .i64 y11).bind fun n11 => (dI .i64 y12).bind fun n12 => (dI .i64 y13).bind fun n13 => (dI .i64 y14).bind fun n14 => (dI .i64 y15).bind fun n15 => (dI .i64 y16).bind fun n16 => (dI .i64 y17).bind fun n17 => (dI .i64 y18).bind fun n18 => (dI .i64 y19).bind fun n19 => (dI .i64 y20).bind fun n20 => (dI .i64 y21).bind fun n21 => (dI .i64 y22).bind fun n22 => (dI .i64 y23).bind fun n23 => (dI .i64 y24).bind fun n24 => (dI .i64 y25).bind fun n25 => (dI .i64 y26).bind fun n26 => (dI .i64 y27).bind fun n27 => some (n0, n1, n2, n3, n4, n5, n6, n7, n8, n9, n10, n11, n12, n13, n14, n15, n16, n17, n18, n19, n20, n21, n22, n23, n24, n25, n26, n27)
  | _ => none
def vesperslaw29_BoundsSet.encX0 (x : vesperslaw29_BoundsSet.X0) : List AV := [.lst 0 .i64 x.1, .lst 1 .u16 x.2.1, .bool (.s x.2.2.1), .int .i64 (.s x.2.2.2.1), .int .i64 (.s x.2.2.2.2.1), .int .i64 (.s x.2.2.2.2.2.1), .int .i64 (.s x.2.2.2.2.2.2.1), .int .i64 (.s x.2.2.2.2.2.2.2.1), .int .i64 (.s x.2.2.2.2.2.2.2.2.1), .int .i64 (.s x.2.2.2.2.2.2.2.2.2.1), .int .i64 (.s x.2.2.2.2.2.2.2.2.2.2.1), .int .i64 (.s x.2.2.2.2.2.2.2.2.2.2.2.1), .int .i64 (.s x.2.2.2.2.2.2.2.2.2.2.2.2.1), .int .i64 (.s x.2.2.2.2.2.2.2.2.2.2.2.2.2.1), .int .i64 (.s x.2.2.2.2.2.2.2.2.2.2.2.2.2.2.1), .int .i64 (.s x.2.2.2.2.2.2.2.2.2.2.2.2.2.2.2.1), .int .i64 (.s x.2.2.2.2.2.2.2.2.2.2.2.2.2.2.2.2.1), .int .i64 (.s x.2.2.2.2.2.2.2.2.2.2.2.2.2.2.2.2.2.1), .int .i64 (.s x.2.2.2.2.2.2.2.2.2.2.2.2.2.2.2.2.2.2.1), .int .i64 (.s x.2.2.2.2.2.2.2.2.2.2.2.2.2.2.2.2.2.2.2.1), .int .i64 (.s x.2.2.2.2.2.2.2.2.2.2.2.2.2.2.2.2.2.2.2.2.1), .int .i64 (.s x.2.2.2.2.2.2.2.2.2.2.2.2.2.2.2.2.2.2.2.2.2.1), .int .i64 (.s x.2.2.2.2.2.2.2.2.2.2.2.2.2.2.2.2.2.2.2.2.2.2.1), .int .i64 (.s x.2.2.2.2.2.2.2.2.2.2.2.2.2.2.2.2.2.2.2.2.2.2.2.1), .int .i64 (.s x.2.2.2.2.2.2.2.2.2.2.2.2.2.2.2.2.2.2.2.2.2.2.2.2.1), .int .i64 (.s x.2.2.2.2.2.2.2.2.2.2.2.2.2.2.2.2.2.2.2.2.2.2.2.2.2.1), .int .i64 (.s x.2.2.2.2.2.2.2.2.2.2.2.2.2.2.2.2.2.2.2.2.2.2.2.2.2.2.1), .int .i64 (.s x.2.2.2.2.2.2.2.2.2.2.2.2.2.2.2.2.2.2.2.2.2.2.2.2.2.2.2)]
theorem vesperslaw29_BoundsSet.decX0_ok (ys : List AV) (x : vesperslaw29_BoundsSet.X0) (h : vesperslaw29_BoundsSet.decX0 ys = some x) : Ptw ys (vesperslaw29_BoundsSet.encX0 x) := by
  unfold vesperslaw29_BoundsSet.decX0 at h
  split at h
  · obtain ⟨n0, e0, h⟩ := Option.bind_eq_some_iff.1 h
    obtain ⟨n1, e1, h⟩ := Option.bind_eq_some_iff.1 h
    obtain ⟨n2, e2, h⟩ := Option.bind_eq_some_iff.1 h
    obtain ⟨n3, e3, h⟩ := Option.bind_eq_some_iff.1 h
    obtain ⟨n4, e4, h⟩ := Option.bind_eq_some_iff.1 h
    obtain ⟨n5, e5, h⟩ := Option.bind_eq_some_iff.1 h
    obtain ⟨n6, e6, h⟩ := Option.bind_eq_some_iff.1 h
    obtain ⟨n7, e7, h⟩ := Option.bind_eq_some_iff.1 h
    obtain ⟨n8, e8, h⟩ := Option.bind_eq_some_iff.1 h
    obtain ⟨n9, e9, h⟩ := Option.bind_eq_some_iff.1 h
    obtain ⟨n10, e10, h⟩ := Option.bind_eq_some_iff.1 h
    obtain ⟨n11, e11, h⟩ := Option.bind_eq_some_iff.1 h
    obtain ⟨n12, e12, h⟩ := Option.bind_eq_some_iff.1 h
    obtain ⟨n13, e13, h⟩ := Option.bind_eq_some_iff.1 h
    obtain ⟨n14, e14, h⟩ := Option.bind_eq_some_iff.1 h
    obtain ⟨n15, e15, h⟩ := Option.bind_eq_some_iff.1 h
    obtain ⟨n16, e16, h⟩ := Option.bind_eq_some_iff.1 h
    obtain ⟨n17, e17, h⟩ := Option.bind_eq_some_iff.1 h
    obtain ⟨n18, e18, h⟩ := Option.bind_eq_some_iff.1 h
    obtain ⟨n19, e19, h⟩ := Option.bind_eq_some_iff.1 h
    obtain ⟨n20, e20, h⟩ := Option.bind_eq_some_iff.1 h
    obtain ⟨n21, e21, h⟩ := Option.bind_eq_some_iff.1 h
    obtain ⟨n22, e22, h⟩ := Option.bind_eq_some_iff.1 h
    obtain ⟨n23, e23, h⟩ := Option.bind_eq_some_iff.1 h
    obtain ⟨n24, e24, h⟩ := Option.bind_eq_some_iff.1 h
    obtain ⟨n25, e25, h⟩ := Option.bind_eq_some_iff.1 h
    obtain ⟨n26, e26, h⟩ := Option.bind_eq_some_iff.1 h
    obtain ⟨n27, e27, h⟩ := Option.bind_eq_some_iff.1 h
    cases h
    exact ⟨fun ρ x hx => dL_ok e0 hx, ⟨fun ρ x hx => dL_ok e1 hx, ⟨fun ρ x hx => dB_ok e2 hx, ⟨fun ρ x hx => dI_ok e3 hx, ⟨fun ρ x hx => dI_ok e4 hx, ⟨fun ρ x hx => dI_ok e5 hx, ⟨fun ρ x hx => dI_ok e6 hx, ⟨fun ρ x hx => dI_ok e7 hx, ⟨fun ρ x hx => dI_ok e8 hx, ⟨fun ρ x hx => dI_ok e9 hx, ⟨fun ρ x hx => dI_ok e10 hx, ⟨fun ρ x hx => dI_ok e11 hx, ⟨fun ρ x hx => dI_ok e12 hx, ⟨fun ρ x hx => dI_ok e13 hx, ⟨fun ρ x hx => dI_ok e14 hx, ⟨fun ρ x hx => dI_ok e15 hx, ⟨fun ρ x hx => dI_ok e16 hx, ⟨fun ρ x hx => dI_ok e17 hx, ⟨fun ρ x hx => dI_ok e18 hx, ⟨fun ρ x hx => dI_ok e19 hx, ⟨fun ρ x hx => dI_ok e20 hx, ⟨fun ρ x hx => dI_ok e21 hx, ⟨fun ρ x hx => dI_ok e22 hx, ⟨fun ρ x hx => dI_ok e23 hx, ⟨fun ρ x hx => dI_ok e24 hx, ⟨fun ρ x hx => dI_ok e25 hx, ⟨fun ρ x hx => dI_ok e26 hx, ⟨fun ρ x hx => dI_ok e27 hx, trivial⟩⟩⟩⟩⟩⟩⟩⟩⟩⟩⟩⟩⟩⟩⟩⟩⟩⟩⟩⟩⟩⟩⟩⟩⟩⟩⟩⟩
  · cases h
abbrev vesperslaw29_BoundsSet.Y0 := Unit
def vesperslaw29_BoundsSet.decY0 : List AV → Option vesperslaw29_BoundsSet.Y0
  | [] => some ()
  | _ => none
def vesperslaw29_BoundsSet.encY0 (x : vesperslaw29_BoundsSet.Y0) : List AV := []
theorem vesperslaw29_BoundsSet.decY0_ok (ys : List AV) (x : vesperslaw29_BoundsSet.Y0) (h : vesperslaw29_BoundsSet.decY0 ys = some x) : Ptw ys (vesperslaw29_BoundsSet.encY0 x) := by
  unfold vesperslaw29_BoundsSet.decY0 at h
  split at h
  · cases h
    exact trivial
  · cases h
noncomputable def vesperslaw29_BoundsSet.tm0 : Templ := { fn := 9, sz := szOf Try.prog 9, hn := 2, slots := [(2, .hole), (3, .hole), (5, .ptr 0 0), (10, .bool false), (11, .hole), (13, .ptr 1 0), (14, .hole), (16, .hole), (17, .hole), (70, .hole), (71, .hole)], H := [(0, 23, [.hole, .hole, .hole, .hole, .hole, .hole, .hole, .hole, .hole, .hole, .hole, .hole, .hole, .hole, .hole, .hole]), (1, 50, [.hole, .hole, .hole, .hole])] }
noncomputable def vesperslaw29_BoundsSet.tr0 : Templ := { fn := 9, sz := szOf Try.prog 9, hn := 2, slots := [(10, .bool false)], H := [] }
noncomputable def vesperslaw29_BoundsSet.b0 : Code := loopOf Try.prog 9 0
noncomputable def vesperslaw29_BoundsSet.k0 : LK vesperslaw29_BoundsSet.X0 vesperslaw29_BoundsSet.Y0 := ⟨vesperslaw29_BoundsSet.tm0, vesperslaw29_BoundsSet.tr0, vesperslaw29_BoundsSet.decX0, vesperslaw29_BoundsSet.encX0, vesperslaw29_BoundsSet.decY0, vesperslaw29_BoundsSet.encY0⟩
theorem vesperslaw29_BoundsSet.k0_ok : vesperslaw29_BoundsSet.k0.OK := ⟨vesperslaw29_BoundsSet.decX0_ok, vesperslaw29_BoundsSet.decY0_ok⟩
def vesperslaw29_BoundsSet.step0 (x : vesperslaw29_BoundsSet.X0) : Option (vesperslaw29_BoundsSet.X0 ⊕ (vesperslaw29_BoundsSet.X0 ⊕ vesperslaw29_BoundsSet.Y0)) :=
  (if x.snd.snd.snd.snd.snd.snd.snd.fst < x.snd.snd.snd.snd.snd.snd.fst then ((plan_Round.f x.snd.snd.snd.snd.snd.snd.snd.snd.fst x.snd.snd.snd.snd.snd.snd.snd.snd.snd.fst x.snd.snd.snd.snd.snd.snd.snd.snd.snd.snd.fst x.snd.snd.snd.snd.snd.snd.snd.snd.snd.snd.snd.fst x.snd.snd.snd.snd.snd.snd.snd.snd.snd.snd.snd.snd.fst x.snd.snd.snd.snd.snd.snd.snd.snd.snd.snd.snd.snd.snd.fst x.snd.snd.snd.snd.snd.snd.snd.snd.snd.snd.snd.snd.snd.snd.fst x.snd.snd.snd.snd.snd.snd.snd.snd.snd.snd.snd.snd.snd.snd.snd.fst x.snd.snd.snd.snd.snd.snd.snd.snd.snd.snd.snd.snd.snd.snd.snd.snd.fst x.snd.snd.snd.snd.snd.snd.snd.snd.snd.snd.snd.snd.snd.snd.snd.snd.snd.fst x.snd.snd.snd.snd.snd.snd.snd.snd.snd.snd.snd.snd.snd.snd.snd.snd.snd.snd.fst x.snd.snd.snd.snd.snd.snd.snd.snd.snd.snd.snd.snd.snd.snd.snd.snd.snd.snd.snd.fst x.snd.snd.snd.snd.snd.snd.snd.snd.snd.snd.snd.snd.snd.snd.snd.snd.snd.snd.snd.snd.fst x.snd.snd.snd.snd.snd.snd.snd.snd.snd.snd.snd.snd.snd.snd.snd.snd.snd.snd.snd.snd.snd.fst x.snd.snd.snd.snd.snd.snd.snd.snd.snd.snd.snd.snd.snd.snd.snd.snd.snd.snd.snd.snd.snd.snd.fst x.snd.snd.snd.snd.snd.snd.snd.snd.snd.snd.snd.snd.snd.snd.snd.snd.snd.snd.snd.snd.snd.snd.snd.fst).bind fun t0 => (if x.snd.snd.snd.snd.snd.snd.snd.fst < Int.ofNat x.snd.fst.length then (if 0 ≤ x.snd.snd.snd.snd.snd.snd.snd.fst ∧ x.snd.snd.snd.snd.snd.snd.snd.fst < Int.ofNat x.snd.fst.length then ((rate_When.f x.snd.snd.snd.snd.snd.snd.snd.snd.snd.snd.snd.snd.snd.snd.snd.snd.snd.snd.snd.snd.snd.snd.snd.snd.fst x.snd.snd.snd.snd.snd.snd.snd.snd.snd.snd.snd.snd.snd.snd.snd.snd.snd.snd.snd.snd.snd.snd.snd.snd.snd.fst x.snd.snd.snd.snd.snd.snd.snd.snd.snd.snd.snd.snd.snd.snd.snd.snd.snd.snd.snd.snd.snd.snd.snd.snd.snd.snd.fst x.snd.snd.snd.snd.snd.snd.snd.snd.snd.snd.snd.snd.snd.snd.snd.snd.snd.snd.snd.snd.snd.snd.snd.snd.snd.snd.snd (wrap64 (wrap64 (wrap64 (x.snd.snd.snd.snd.snd.fst + t0) - x.snd.snd.snd.snd.snd.snd.snd.snd.snd.snd.snd.snd.snd.snd.snd.snd.snd.snd.fst) + wrap64 (x.snd.fst.getD x.snd.snd.snd.snd.snd.snd.snd.fst.toNat 0)))).bind fun t1 => (if t1.snd ≠ 0 then some (Sum.inr (Sum.inl (x.fst, x.snd.fst, x.snd.snd.fst, x.snd.snd.snd.fst, x.snd.snd.snd.snd.fst, x.snd.snd.snd.snd.snd.fst, x.snd.snd.snd.snd.snd.snd.fst, x.snd.snd.snd.snd.snd.snd.snd.fst, x.snd.snd.snd.snd.snd.snd.snd.snd.fst, x.snd.snd.snd.snd.snd.snd.snd.snd.snd.fst, x.snd.snd.snd.snd.snd.snd.snd.snd.snd.snd.fst, x.snd.snd.snd.snd.snd.snd.snd.snd.snd.snd.snd.fst, x.snd.snd.snd.snd.snd.snd.snd.snd.snd.snd.snd.snd.fst, x.snd.snd.snd.snd.snd.snd.snd.snd.snd.snd.snd.snd.snd.fst, x.snd.snd.snd.snd.snd.snd.snd.snd.snd.snd.snd.snd.snd.snd.fst, x.snd.snd.snd.snd.snd.snd.snd.snd.snd.snd.snd.snd.snd.snd.snd.fst, x.snd.snd.snd.snd.snd.snd.snd.snd.snd.snd.snd.snd.snd.snd.snd.snd.fst, x.snd.snd.snd.snd.snd.snd.snd.snd.snd.snd.snd.snd.snd.snd.snd.snd.snd.fst, x.snd.snd.snd.snd.snd.snd.snd.snd.snd.snd.snd.snd.snd.snd.snd.snd.snd.snd.fst, x.snd.snd.snd.snd.snd.snd.snd.snd.snd.snd.snd.snd.snd.snd.snd.snd.snd.snd.snd.fst, x.snd.snd.snd.snd.snd.snd.snd.snd.snd.snd.snd.snd.snd.snd.snd.snd.snd.snd.snd.snd.fst, x.snd.snd.snd.snd.snd.snd.snd.snd.snd.snd.snd.snd.snd.snd.snd.snd.snd.snd.snd.snd.snd.fst, x.snd.snd.snd.snd.snd.snd.snd.snd.snd.snd.snd.snd.snd.snd.snd.snd.snd.snd.snd.snd.snd.snd.fst, x.snd.snd.snd.snd.snd.snd.snd.snd.snd.snd.snd.snd.snd.snd.snd.snd.snd.snd.snd.snd.snd.snd.snd.fst, x.snd.snd.snd.snd.snd.snd.snd.snd.snd.snd.snd.snd.snd.snd.snd.snd.snd.snd.snd.snd.snd.snd.snd.snd.fst, x.snd.snd.snd.snd.snd.snd.snd.snd.snd.snd.snd.snd.snd.snd.snd.snd.snd.snd.snd.snd.snd.snd.snd.snd.snd.fst, x.snd.snd.snd.snd.snd.snd.snd.snd.snd.snd.snd.snd.snd.snd.snd.snd.snd.snd.snd.snd.snd.snd.snd.snd.snd.snd.fst, x.snd.snd.snd.snd.snd.snd.snd.snd.snd.snd.snd.snd.snd.snd.snd.snd.snd.snd.snd.snd.snd.snd.snd.snd.snd.snd.snd))) else (if wrap64 (t1.fst - x.snd.snd.snd.snd.snd.snd.snd.snd.snd.snd.snd.snd.snd.snd.snd.snd.snd.snd.snd.snd.snd.snd.snd.snd.snd.snd.fst) > 2147483648 then some (Sum.inr (Sum.inl (x.fst, x.snd.fst, x.snd.snd.fst, x.snd.snd.snd.fst, x.snd.snd.snd.snd.fst, x.snd.snd.snd.snd.snd.fst, x.snd.snd.snd.snd.snd.snd.fst, x.snd.snd.snd.snd.snd.snd.snd.fst, x.snd.snd.snd.snd.snd.snd.snd.snd.fst, x.snd.snd.snd.snd.snd.snd.snd.snd.snd.fst, x.snd.snd.snd.snd.snd.snd.snd.snd.snd.snd.fst, x.snd.snd.snd.snd.snd.snd.snd.snd.snd.snd.snd.fst, x.snd.snd.snd.snd.snd.snd.snd.snd.snd.snd.snd.snd.fst, x.snd.snd.snd.snd.snd.snd.snd.snd.snd.snd.snd.snd.snd.fst, x.snd.snd.snd.snd.snd.snd.snd.snd.snd.snd.snd.snd.snd.snd.fst, x.snd.snd.snd.snd.snd.snd.snd.snd.snd.snd.snd.snd.snd.snd.snd.fst, x.snd.snd.snd.snd.snd.snd.snd.snd.snd.snd.snd.snd.snd.snd.snd.snd.fst, x.snd.snd.snd.snd.snd.snd.snd.snd.snd.snd.snd.snd.snd.snd.snd.snd.snd.fst, x.snd.snd.snd.snd.snd.snd.snd.snd.snd.snd.snd.snd.snd.snd.snd.snd.snd.snd.fst, x.snd.snd.snd.snd.snd.snd.snd.snd.snd.snd.snd.snd.snd.snd.snd.snd.snd.snd.snd.fst, x.snd.snd.snd.snd.snd.snd.snd.snd.snd.snd.snd.snd.snd.snd.snd.snd.snd.snd.snd.snd.fst, x.snd.snd.snd.snd.snd.snd.snd.snd.snd.snd.snd.snd.snd.snd.snd.snd.snd.snd.snd.snd.snd.fst, x.snd.snd.snd.snd.snd.snd.snd.snd.snd.snd.snd.snd.snd.snd.snd.snd.snd.snd.snd.snd.snd.snd.fst, x.snd.snd.snd.snd.snd.snd.snd.snd.snd.snd.snd.snd.snd.snd.snd.snd.snd.snd.snd.snd.snd.snd.snd.fst, x.snd.snd.snd.snd.snd.snd.snd.snd.snd.snd.snd.snd.snd.snd.snd.snd.snd.snd.snd.snd.snd.snd.snd.snd.fst, x.snd.snd.snd.snd.snd.snd.snd.snd.snd.snd.snd.snd.snd.snd.snd.snd.snd.snd.snd.snd.snd.snd.snd.snd.snd.fst, x.snd.snd.snd.snd.snd.snd.snd.snd.snd.snd.snd.snd.snd.snd.snd.snd.snd.snd.snd.snd.snd.snd.snd.snd.snd.snd.fst, x.snd.snd.snd.snd.snd.snd.snd.snd.snd.snd.snd.snd.snd.snd.snd.snd.snd.snd.snd.snd.snd.snd.snd.snd.snd.snd.snd))) else (if 0 ≤ x.snd.snd.snd.snd.snd.snd.snd.fst ∧ x.snd.snd.snd.snd.snd.snd.snd.fst < Int.ofNat x.fst.length then (if wrap64 (x.snd.snd.snd.snd.snd.snd.snd.snd.snd.snd.snd.snd.snd.snd.snd.snd.snd.snd.fst + 1) = 0 then none else ((rate_Set.f x.snd.snd.snd.snd.snd.snd.snd.snd.snd.snd.snd.snd.snd.snd.snd.snd.snd.snd.snd.snd.snd.snd.snd.snd.fst x.snd.snd.snd.snd.snd.snd.snd.snd.snd.snd.snd.snd.snd.snd.snd.snd.snd.snd.snd.snd.snd.snd.snd.snd.snd.fst x.snd.snd.snd.snd.snd.snd.snd.snd.snd.snd.snd.snd.snd.snd.snd.snd.snd.snd.snd.snd.snd.snd.snd.snd.snd.snd.fst x.snd.snd.snd.snd.snd.snd.snd.snd.snd.snd.snd.snd.snd.snd.snd.snd.snd.snd.snd.snd.snd.snd.snd.snd.snd.snd.snd ((x.fst.getD x.snd.snd.snd.snd.snd.snd.snd.fst.toNat 0).tmod (wrap64 (x.snd.snd.snd.snd.snd.snd.snd.snd.snd.snd.snd.snd.snd.snd.snd.snd.snd.snd.fst + 1)))).bind fun t2 => (if t2.snd.snd.snd.snd ≠ 0 then some (Sum.inr (Sum.inl (x.fst, x.snd.fst, x.snd.snd.fst, x.snd.snd.snd.fst, if t1.fst > x.snd.snd.snd.snd.fst then t1.fst else x.snd.snd.snd.snd.fst, x.snd.snd.snd.snd.snd.fst, x.snd.snd.snd.snd.snd.snd.fst, x.snd.snd.snd.snd.snd.snd.snd.fst, x.snd.snd.snd.snd.snd.snd.snd.snd.fst, x.snd.snd.snd.snd.snd.snd.snd.snd.snd.fst, x.snd.snd.snd.snd.snd.snd.snd.snd.snd.snd.fst, x.snd.snd.snd.snd.snd.snd.snd.snd.snd.snd.snd.fst, x.snd.snd.snd.snd.snd.snd.snd.snd.snd.snd.snd.snd.fst, x.snd.snd.snd.snd.snd.snd.snd.snd.snd.snd.snd.snd.snd.fst, x.snd.snd.snd.snd.snd.snd.snd.snd.snd.snd.snd.snd.snd.snd.fst, x.snd.snd.snd.snd.snd.snd.snd.snd.snd.snd.snd.snd.snd.snd.snd.fst, x.snd.snd.snd.snd.snd.snd.snd.snd.snd.snd.snd.snd.snd.snd.snd.snd.fst, x.snd.snd.snd.snd.snd.snd.snd.snd.snd.snd.snd.snd.snd.snd.snd.snd.snd.fst, x.snd.snd.snd.snd.snd.snd.snd.snd.snd.snd.snd.snd.snd.snd.snd.snd.snd.snd.fst, x.snd.snd.snd.snd.snd.snd.snd.snd.snd.snd.snd.snd.snd.snd.snd.snd.snd.snd.snd.fst, x.snd.snd.snd.snd.snd.snd.snd.snd.snd.snd.snd.snd.snd.snd.snd.snd.snd.snd.snd.snd.fst, x.snd.snd.snd.snd.snd.snd.snd.snd.snd.snd.snd.snd.snd.snd.snd.snd.snd.snd.snd.snd.snd.fst, x.snd.snd.snd.snd.snd.snd.snd.snd.snd.snd.snd.snd.snd.snd.snd.snd.snd.snd.snd.snd.snd.snd.fst, x.snd.snd.snd.snd.snd.snd.snd.snd.snd.snd.snd.snd.snd.snd.snd.snd.snd.snd.snd.snd.snd.snd.snd.fst, x.snd.snd.snd.snd.snd.snd.snd.snd.snd.snd.snd.snd.snd.snd.snd.snd.snd.snd.snd.snd.snd.snd.snd.snd.fst, x.snd.snd.snd.snd.snd.snd.snd.snd.snd.snd.snd.snd.snd.snd.snd.snd.snd.snd.snd.snd.snd.snd.snd.snd.snd.fst, x.snd.snd.snd.snd.snd.snd.snd.snd.snd.snd.snd.snd.snd.snd.snd.snd.snd.snd.snd.snd.snd.snd.snd.snd.snd.snd.fst, x.snd.snd.snd.snd.snd.snd.snd.snd.snd.snd.snd.snd.snd.snd.snd.snd.snd.snd.snd.snd.snd.snd.snd.snd.snd.snd.snd))) else ((rate_Reads.f t2.fst t2.snd.fst t2.snd.snd.fst t2.snd.snd.snd.fst (if t1.fst > x.snd.snd.snd.snd.fst then t1.fst else x.snd.snd.snd.snd.fst)).bind fun t3 => ((bounds_Envelope.f x.snd.snd.snd.snd.snd.snd.snd.snd.fst x.snd.snd.snd.snd.snd.snd.snd.snd.snd.fst x.snd.snd.snd.snd.snd.snd.snd.snd.snd.snd.fst x.snd.snd.snd.snd.snd.snd.snd.snd.snd.snd.snd.fst x.snd.snd.snd.snd.snd.snd.snd.snd.snd.snd.snd.snd.fst x.snd.snd.snd.snd.snd.snd.snd.snd.snd.snd.snd.snd.snd.fst x.snd.snd.snd.snd.snd.snd.snd.snd.snd.snd.snd.snd.snd.snd.fst x.snd.snd.snd.snd.snd.snd.snd.snd.snd.snd.snd.snd.snd.snd.snd.fst x.snd.snd.snd.snd.snd.snd.snd.snd.snd.snd.snd.snd.snd.snd.snd.snd.fst x.snd.snd.snd.snd.snd.snd.snd.snd.snd.snd.snd.snd.snd.snd.snd.snd.snd.fst x.snd.snd.snd.snd.snd.snd.snd.snd.snd.snd.snd.snd.snd.snd.snd.snd.snd.snd.fst x.snd.snd.snd.snd.snd.snd.snd.snd.snd.snd.snd.snd.snd.snd.snd.snd.snd.snd.snd.fst x.snd.snd.snd.snd.snd.snd.snd.snd.snd.snd.snd.snd.snd.snd.snd.snd.snd.snd.snd.snd.fst x.snd.snd.snd.snd.snd.snd.snd.snd.snd.snd.snd.snd.snd.snd.snd.snd.snd.snd.snd.snd.snd.fst x.snd.snd.snd.snd.snd.snd.snd.snd.snd.snd.snd.snd.snd.snd.snd.snd.snd.snd.snd.snd.snd.snd.fst x.snd.snd.snd.snd.snd.snd.snd.snd.snd.snd.snd.snd.snd.snd.snd.snd.snd.snd.snd.snd.snd.snd.snd.fst (wrap64 ((if t1.fst > x.snd.snd.snd.snd.fst then t1.fst else x.snd.snd.snd.snd.fst) - t2.snd.snd.fst))).bind fun t4 => (if t3.snd ≠ 0 then some (Sum.inr (Sum.inr ())) else (if t4.snd.snd ≠ 0 then some (Sum.inr (Sum.inr ())) else (if wrap64 (t3.fst - x.snd.snd.snd.fst) < t4.fst then some (Sum.inr (Sum.inr ())) else (if wrap64 (t3.fst - x.snd.snd.snd.fst) > t4.snd.fst then some (Sum.inr (Sum.inr ())) else some (Sum.inl (x.fst, x.snd.fst, x.snd.snd.fst, x.snd.snd.snd.fst, if t1.fst > x.snd.snd.snd.snd.fst then t1.fst else x.snd.snd.snd.snd.fst, t3.fst, x.snd.snd.snd.snd.snd.snd.fst, wrap64 (x.snd.snd.snd.snd.snd.snd.snd.fst + 1), x.snd.snd.snd.snd.snd.snd.snd.snd.fst, x.snd.snd.snd.snd.snd.snd.snd.snd.snd.fst, x.snd.snd.snd.snd.snd.snd.snd.snd.snd.snd.fst, x.snd.snd.snd.snd.snd.snd.snd.snd.snd.snd.snd.fst, x.snd.snd.snd.snd.snd.snd.snd.snd.snd.snd.snd.snd.fst, x.snd.snd.snd.snd.snd.snd.snd.snd.snd.snd.snd.snd.snd.fst, x.snd.snd.snd.snd.snd.snd.snd.snd.snd.snd.snd.snd.snd.snd.fst, x.snd.snd.snd.snd.snd.snd.snd.snd.snd.snd.snd.snd.snd.snd.snd.fst, x.snd.snd.snd.snd.snd.snd.snd.snd.snd.snd.snd.snd.snd.snd.snd.snd.fst, x.snd.snd.snd.snd.snd.snd.snd.snd.snd.snd.snd.snd.snd.snd.snd.snd.snd.fst, x.snd.snd.snd.snd.snd.snd.snd.snd.snd.snd.snd.snd.snd.snd.snd.snd.snd.snd.fst, x.snd.snd.snd.snd.snd.snd.snd.snd.snd.snd.snd.snd.snd.snd.snd.snd.snd.snd.snd.fst, x.snd.snd.snd.snd.snd.snd.snd.snd.snd.snd.snd.snd.snd.snd.snd.snd.snd.snd.snd.snd.fst, x.snd.snd.snd.snd.snd.snd.snd.snd.snd.snd.snd.snd.snd.snd.snd.snd.snd.snd.snd.snd.snd.fst, x.snd.snd.snd.snd.snd.snd.snd.snd.snd.snd.snd.snd.snd.snd.snd.snd.snd.snd.snd.snd.snd.snd.fst, x.snd.snd.snd.snd.snd.snd.snd.snd.snd.snd.snd.snd.snd.snd.snd.snd.snd.snd.snd.snd.snd.snd.snd.fst, t2.fst, t2.snd.fst, t2.snd.snd.fst, t2.snd.snd.snd.fst))))))))))) else none)))) else none) else ((rate_When.f x.snd.snd.snd.snd.snd.snd.snd.snd.snd.snd.snd.snd.snd.snd.snd.snd.snd.snd.snd.snd.snd.snd.snd.snd.fst x.snd.snd.snd.snd.snd.snd.snd.snd.snd.snd.snd.snd.snd.snd.snd.snd.snd.snd.snd.snd.snd.snd.snd.snd.snd.fst x.snd.snd.snd.snd.snd.snd.snd.snd.snd.snd.snd.snd.snd.snd.snd.snd.snd.snd.snd.snd.snd.snd.snd.snd.snd.snd.fst x.snd.snd.snd.snd.snd.snd.snd.snd.snd.snd.snd.snd.snd.snd.snd.snd.snd.snd.snd.snd.snd.snd.snd.snd.snd.snd.snd (wrap64 (wrap64 (x.snd.snd.snd.snd.snd.fst + t0) - x.snd.snd.snd.snd.snd.snd.snd.snd.snd.snd.snd.snd.snd.snd.snd.snd.snd.snd.fst))).bind fun t1 => (if t1.snd ≠ 0 then some (Sum.inr (Sum.inl (x.fst, x.snd.fst, x.snd.snd.fst, x.snd.snd.snd.fst, x.snd.snd.snd.snd.fst, x.snd.snd.snd.snd.snd.fst, x.snd.snd.snd.snd.snd.snd.fst, x.snd.snd.snd.snd.snd.snd.snd.fst, x.snd.snd.snd.snd.snd.snd.snd.snd.fst, x.snd.snd.snd.snd.snd.snd.snd.snd.snd.fst, x.snd.snd.snd.snd.snd.snd.snd.snd.snd.snd.fst, x.snd.snd.snd.snd.snd.snd.snd.snd.snd.snd.snd.fst, x.snd.snd.snd.snd.snd.snd.snd.snd.snd.snd.snd.snd.fst, x.snd.snd.snd.snd.snd.snd.snd.snd.snd.snd.snd.snd.snd.fst, x.snd.snd.snd.snd.snd.snd.snd.snd.snd.snd.snd.snd.snd.snd.fst, x.snd.snd.snd.snd.snd.snd.snd.snd.snd.snd.snd.snd.snd.snd.snd.fst, x.snd.snd.snd.snd.snd.snd.snd.snd.snd.snd.snd.snd.snd.snd.snd.snd.fst, x.snd.snd.snd.snd.snd.snd.snd.snd.snd.snd.snd.snd.snd.snd.snd.snd.snd.fst, x.snd.snd.snd.snd.snd.snd.snd.snd.snd.snd.snd.snd.snd.snd.snd.snd.snd.snd.fst, x.snd.snd.snd.snd.snd.snd.snd.snd.snd.snd.snd.snd.snd.snd.snd.snd.snd.snd.snd.fst, x.snd.snd.snd.snd.snd.snd.snd.snd.snd.snd.snd.snd.snd.snd.snd.snd.snd.snd.snd.snd.fst, x.snd.snd.snd.snd.snd.snd.snd.snd.snd.snd.snd.snd.snd.snd.snd.snd.snd.snd.snd.snd.snd.fst, x.snd.snd.snd.snd.snd.snd.snd.snd.snd.snd.snd.snd.snd.snd.snd.snd.snd.snd.snd.snd.snd.snd.fst, x.snd.snd.snd.snd.snd.snd.snd.snd.snd.snd.snd.snd.snd.snd.snd.snd.snd.snd.snd.snd.snd.snd.snd.fst, x.snd.snd.snd.snd.snd.snd.snd.snd.snd.snd.snd.snd.snd.snd.snd.snd.snd.snd.snd.snd.snd.snd.snd.snd.fst, x.snd.snd.snd.snd.snd.snd.snd.snd.snd.snd.snd.snd.snd.snd.snd.snd.snd.snd.snd.snd.snd.snd.snd.snd.snd.fst, x.snd.snd.snd.snd.snd.snd.snd.snd.snd.snd.snd.snd.snd.snd.snd.snd.snd.snd.snd.snd.snd.snd.snd.snd.snd.snd.fst, x.snd.snd.snd.snd.snd.snd.snd.snd.snd.snd.snd.snd.snd.snd.snd.snd.snd.snd.snd.snd.snd.snd.snd.snd.snd.snd.snd))) else (if wrap64 (t1.fst - x.snd.snd.snd.snd.snd.snd.snd.snd.snd.snd.snd.snd.snd.snd.snd.snd.snd.snd.snd.snd.snd.snd.snd.snd.snd.snd.fst) > 2147483648 then some (Sum.inr (Sum.inl (x.fst, x.snd.fst, x.snd.snd.fst, x.snd.snd.snd.fst, x.snd.snd.snd.snd.fst, x.snd.snd.snd.snd.snd.fst, x.snd.snd.snd.snd.snd.snd.fst, x.snd.snd.snd.snd.snd.snd.snd.fst, x.snd.snd.snd.snd.snd.snd.snd.snd.fst, x.snd.snd.snd.snd.snd.snd.snd.snd.snd.fst, x.snd.snd.snd.snd.snd.snd.snd.snd.snd.snd.fst, x.snd.snd.snd.snd.snd.snd.snd.snd.snd.snd.snd.fst, x.snd.snd.snd.snd.snd.snd.snd.snd.snd.snd.snd.snd.fst, x.snd.snd.snd.snd.snd.snd.snd.snd.snd.snd.snd.snd.snd.fst, x.snd.snd.snd.snd.snd.snd.snd.snd.snd.snd.snd.snd.snd.snd.fst, x.snd.snd.snd.snd.snd.snd.snd.snd.snd.snd.snd.snd.snd.snd.snd.fst, x.snd.snd.snd.snd.snd.snd.snd.snd.snd.snd.snd.snd.snd.snd.snd.snd.fst, x.snd.snd.snd.snd.snd.snd.snd.snd.snd.snd.snd.snd.snd.snd.snd.snd.snd.fst, x.snd.snd.snd.snd.snd.snd.snd.snd.snd.snd.snd.snd.snd.snd.snd.snd.snd.snd.fst, x.snd.snd.snd.snd.snd.snd.snd.snd.snd.snd.snd.snd.snd.snd.snd.snd.snd.snd.snd.fst, x.snd.snd.snd.snd.snd.snd.snd.snd.snd.snd.snd.snd.snd.snd.snd.snd.snd.snd.snd.snd.fst, x.snd.snd.snd.snd.snd.snd.snd.snd.snd.snd.snd.snd.snd.snd.snd.snd.snd.snd.snd.snd.snd.fst, x.snd.snd.snd.snd.snd.snd.snd.snd.snd.snd.snd.snd.snd.snd.snd.snd.snd.snd.snd.snd.snd.snd.fst, x.snd.snd.snd.snd.snd.snd.snd.snd.snd.snd.snd.snd.snd.snd.snd.snd.snd.snd.snd.snd.snd.snd.snd.fst, x.snd.snd.snd.snd.snd.snd.snd.snd.snd.snd.snd.snd.snd.snd.snd.snd.snd.snd.snd.snd.snd.snd.snd.snd.fst, x.snd.snd.snd.snd.snd.snd.snd.snd.snd.snd.snd.snd.snd.snd.snd.snd.snd.snd.snd.snd.snd.snd.snd.snd.snd.fst, x.snd.snd.snd.snd.snd.snd.snd.snd.snd.snd.snd.snd.snd.snd.snd.snd.snd.snd.snd.snd.snd.snd.snd.snd.snd.snd.fst, x.snd.snd.snd.snd.snd.snd.snd.snd.snd.snd.snd.snd.snd.snd.snd.snd.snd.snd.snd.snd.snd.snd.snd.snd.snd.snd.snd))) else (if 0 ≤ x.snd.snd.snd.snd.snd.snd.snd.fst ∧ x.snd.snd.snd.snd.snd.snd.snd.fst < Int.ofNat x.fst.length then (if wrap64 (x.snd.snd.snd.snd.snd.snd.snd.snd.snd.snd.snd.snd.snd.snd.snd.snd.snd.snd.fst + 1) = 0 then none else ((rate_Set.f x.snd.snd.snd.snd.snd.snd.snd.snd.snd.snd.snd.snd.snd.snd.snd.snd.snd.snd.snd.snd.snd.snd.snd.snd.fst x.snd.snd.snd.snd.snd.snd.snd.snd.snd.snd.snd.snd.snd.snd.snd.snd.snd.snd.snd.snd.snd.snd.snd.snd.snd.fst x.snd.snd.snd.snd.snd.snd.snd.snd.snd.snd.snd.snd.snd.snd.snd.snd.snd.snd.snd.snd.snd.snd.snd.snd.snd.snd.fst x.snd.snd.snd.snd.snd.snd.snd.snd.snd.snd.snd.snd.snd.snd.snd.snd.snd.snd.snd.snd.snd.snd.snd.snd.snd.snd.snd ((x.fst.getD x.snd.snd.snd.snd.snd.snd.snd.fst.toNat 0).tmod (wrap64 (x.snd.snd.snd.snd.snd.snd.snd.snd.snd.snd.snd.snd.snd.snd.snd.snd.snd.snd.fst + 1)))).bind fun t2 => (if t2.snd.snd.snd.snd ≠ 0 then some (Sum.inr (Sum.inl (x.fst, x.snd.fst, x.snd.snd.fst, x.snd.snd.snd.fst, if t1.fst > x.snd.snd.snd.snd.fst then t1.fst else x.snd.snd.snd.snd.fst, x.snd.snd.snd.snd.snd.fst, x.snd.snd.snd.snd.snd.snd.fst, x.snd.snd.snd.snd.snd.snd.snd.fst, x.snd.snd.snd.snd.snd.snd.snd.snd.fst, x.snd.snd.snd.snd.snd.snd.snd.snd.snd.fst, x.snd.snd.snd.snd.snd.snd.snd.snd.snd.snd.fst, x.snd.snd.snd.snd.snd.snd.snd.snd.snd.snd.snd.fst, x.snd.snd.snd.snd.snd.snd.snd.snd.snd.snd.snd.snd.fst, x.snd.snd.snd.snd.snd.snd.snd.snd.snd.snd.snd.snd.snd.fst, x.snd.snd.snd.snd.snd.snd.snd.snd.snd.snd.snd.snd.snd.snd.fst, x.snd.snd.snd.snd.snd.snd.snd.snd.snd.snd.snd.snd.snd.snd.snd.fst, x.snd.snd.snd.snd.snd.snd.snd.snd.snd.snd.snd.snd.snd.snd.snd.snd.fst, x.snd.snd.snd.snd.snd.snd.snd.snd.snd.snd.snd.snd.snd.snd.snd.snd.snd.fst, x.snd.snd.snd.snd.snd.snd.snd.snd.snd.snd.snd.snd.snd.snd.snd.snd.snd.snd.fst, x.snd.snd.snd.snd.snd.snd.snd.snd.snd.snd.snd.snd.snd.snd.snd.snd.snd.snd.snd.fst, x.snd.snd.snd.snd.snd.snd.snd.snd.snd.snd.snd.snd.snd.snd.snd.snd.snd.snd.snd.snd.fst, x.snd.snd.snd.snd.snd.snd.snd.snd.snd.snd.snd.snd.snd.snd.snd.snd.snd.snd.snd.snd.snd.fst, x.snd.snd.snd.snd.snd.snd.snd.snd.snd.snd.snd.snd.snd.snd.snd.snd.snd.snd.snd.snd.snd.snd.fst, x.snd.snd.snd.snd.snd.snd.snd.snd.snd.snd.snd.snd.snd.snd.snd.snd.snd.snd.snd.snd.snd.snd.snd.fst, x.snd.snd.snd.snd.snd.snd.snd.snd.snd.snd.snd.snd.snd.snd.snd.snd.snd.snd.snd.snd.snd.snd.snd.snd.fst, x.snd.snd.snd.snd.snd.snd.snd.snd.snd.snd.snd.snd.snd.snd.snd.snd.snd.snd.snd.snd.snd.snd.snd.snd.snd.fst, x.snd.snd.snd.snd.snd.snd.snd.snd.snd.snd.snd.snd.snd.snd.snd.snd.snd.snd.snd.snd.snd.snd.snd.snd.snd.snd.fst, x.snd.snd.snd.snd.snd.snd.snd.snd.snd.snd.snd.snd.snd.snd.snd.snd.snd.snd.snd.snd.snd.snd.snd.snd.snd.snd.snd))) else ((rate_Reads.f t2.fst t2.snd.fst t2.snd.snd.fst t2.snd.snd.snd.fst (if t1.fst > x.snd.snd.snd.snd.fst then t1.fst else x.snd.snd.snd.snd.fst)).bind fun t3 => ((bounds_Envelope.f x.snd.snd.snd.snd.snd.snd.snd.snd.fst x.snd.snd.snd.snd.snd.snd.snd.snd.snd.fst x.snd.snd.snd.snd.snd.snd.snd.snd.snd.snd.fst x.snd.snd.snd.snd.snd.snd.snd.snd.snd.snd.snd.fst x.snd.snd.snd.snd.snd.snd.snd.snd.snd.snd.snd.snd.fst x.snd.snd.snd.snd.snd.snd.snd.snd.snd.snd.snd.snd.snd.fst x.snd.snd.snd.snd.snd.snd.snd.snd.snd.snd.snd.snd.snd.snd.fst x.snd.snd.snd.snd.snd.snd.snd.snd.snd.snd.snd.snd.snd.snd.snd.fst x.snd.snd.snd.snd.snd.snd.snd.snd.snd.snd.snd.snd.snd.snd.snd.snd.fst x.snd.snd.snd.snd.snd.snd.snd.snd.snd.snd.snd.snd.snd.snd.snd.snd.snd.fst x.snd.snd.snd.snd.snd.snd.snd.snd.snd.snd.snd.snd.snd.snd.snd.snd.snd.snd.fst x.snd.snd.snd.snd.snd.snd.snd.snd.snd.snd.snd.snd.snd.snd.snd.snd.snd.snd.snd.fst x.snd.snd.snd.snd.snd.snd.snd.snd.snd.snd.snd.snd.snd.snd.snd.snd.snd.snd.snd.snd.fst x.snd.snd.snd.snd.snd.snd.snd.snd.snd.snd.snd.snd.snd.snd.snd.snd.snd.snd.snd.snd.snd.fst x.snd.snd.snd.snd.snd.snd.snd.snd.snd.snd.snd.snd.snd.snd.snd.snd.snd.snd.snd.snd.snd.snd.fst x.snd.snd.snd.snd.snd.snd.snd.snd.snd.snd.snd.snd.snd.snd.snd.snd.snd.snd.snd.snd.snd.snd.snd.fst (wrap64 ((if t1.fst > x.snd.snd.snd.snd.fst then t1.fst else x.snd.snd.snd.snd.fst) - t2.snd.snd.fst))).bind fun t4 => (if t3.snd ≠ 0 then some (Sum.inr (Sum.inr ())) else (if t4.snd.snd ≠ 0 then some (Sum.inr (Sum.inr ())) else (if wrap64 (t3.fst - x.snd.snd.snd.fst) < t4.fst then some (Sum.inr (Sum.inr ())) else (if wrap64 (t3.fst - x.snd.snd.snd.fst) > t4.snd.fst then some (Sum.inr (Sum.inr ())) else some (Sum.inl (x.fst, x.snd.fst, x.snd.snd.fst, x.snd.snd.snd.fst, if t1.fst > x.snd.snd.snd.snd.fst then t1.fst else x.snd.snd.snd.snd.fst, t3.fst, x.snd.snd.snd.snd.snd.snd.fst, wrap64 (x.snd.snd.snd.snd.snd.snd.snd.fst + 1), x.snd.snd.snd.snd.snd.snd.snd.snd.fst, x.snd.snd.snd.snd.snd.snd.snd.snd.snd.fst, x.snd.snd.snd.snd.snd.snd.snd.snd.snd.snd.fst, x.snd.snd.snd.snd.snd.snd.snd.snd.snd.snd.snd.fst, x.snd.snd.snd.snd.snd.snd.snd.snd.snd.snd.snd.snd.fst, x.snd.snd.snd.snd.snd.snd.snd.snd.snd.snd.snd.snd.snd.fst, x.snd.snd.snd.snd.snd.snd.snd.snd.snd.snd.snd.snd.snd.snd.fst, x.snd.snd.snd.snd.snd.snd.snd.snd.snd.snd.snd.snd.snd.snd.snd.fst, x.snd.snd.snd.snd.snd.snd.snd.snd.snd.snd.snd.snd.snd.snd.snd.snd.fst, x.snd.snd.snd.snd.snd.snd.snd.snd.snd.snd.snd.snd.snd.snd.snd.snd.snd.fst, x.snd.snd.snd.snd.snd.snd.snd.snd.snd.snd.snd.snd.snd.snd.snd.snd.snd.snd.fst, x.snd.snd.snd.snd.snd.snd.snd.snd.snd.snd.snd.snd.snd.snd.snd.snd.snd.snd.snd.fst, x.snd.snd.snd.snd.snd.snd.snd.snd.snd.snd.snd.snd.snd.snd.snd.snd.snd.snd.snd.snd.fst, x.snd.snd.snd.snd.snd.snd.snd.snd.snd.snd.snd.snd.snd.snd.snd.snd.snd.snd.snd.snd.snd.fst, x.snd.snd.snd.snd.snd.snd.snd.snd.snd.snd.snd.snd.snd.snd.snd.snd.snd.snd.snd.snd.snd.snd.fst, x.snd.snd.snd.snd.snd.snd.snd.snd.snd.snd.snd.snd.snd.snd.snd.snd.snd.snd.snd.snd.snd.snd.snd.fst, t2.fst, t2.snd.fst, t2.snd.snd.fst, t2.snd.snd.snd.fst))))))))))) else none)))))) else some (Sum.inr (Sum.inl (x.fst, x.snd.fst, x.snd.snd.fst, x.snd.snd.snd.fst, x.snd.snd.snd.snd.fst, x.snd.snd.snd.snd.snd.fst, x.snd.snd.snd.snd.snd.snd.fst, x.snd.snd.snd.snd.snd.snd.snd.fst, x.snd.snd.snd.snd.snd.snd.snd.snd.fst, x.snd.snd.snd.snd.snd.snd.snd.snd.snd.fst, x.snd.snd.snd.snd.snd.snd.snd.snd.snd.snd.fst, x.snd.snd.snd.snd.snd.snd.snd.snd.snd.snd.snd.fst, x.snd.snd.snd.snd.snd.snd.snd.snd.snd.snd.snd.snd.fst, x.snd.snd.snd.snd.snd.snd.snd.snd.snd.snd.snd.snd.snd.fst, x.snd.snd.snd.snd.snd.snd.snd.snd.snd.snd.snd.snd.snd.snd.fst, x.snd.snd.snd.snd.snd.snd.snd.snd.snd.snd.snd.snd.snd.snd.snd.fst, x.snd.snd.snd.snd.snd.snd.snd.snd.snd.snd.snd.snd.snd.snd.snd.snd.fst, x.snd.snd.snd.snd.snd.snd.snd.snd.snd.snd.snd.snd.snd.snd.snd.snd.snd.fst, x.snd.snd.snd.snd.snd.snd.snd.snd.snd.snd.snd.snd.snd.snd.snd.snd.snd.snd.fst, x.snd.snd.snd.snd.snd.snd.snd.snd.snd.snd.snd.snd.snd.snd.snd.snd.snd.snd.snd.fst, x.snd.snd.snd.snd.snd.snd.snd.snd.snd.snd.snd.snd.snd.snd.snd.snd.snd.snd.snd.snd.fst, x.snd.snd.snd.snd.snd.snd.snd.snd.snd.snd.snd.snd.snd.snd.snd.snd.snd.snd.snd.snd.snd.fst, x.snd.snd.snd.snd.snd.snd.snd.snd.snd.snd.snd.snd.snd.snd.snd.snd.snd.snd.snd.snd.snd.snd.fst, x.snd.snd.snd.snd.snd.snd.snd.snd.snd.snd.snd.snd.snd.snd.snd.snd.snd.snd.snd.snd.snd.snd.snd.fst, x.snd.snd.snd.snd.snd.snd.snd.snd.snd.snd.snd.snd.snd.snd.snd.snd.snd.snd.snd.snd.snd.snd.snd.snd.fst, x.snd.snd.snd.snd.snd.snd.snd.snd.snd.snd.snd.snd.snd.snd.snd.snd.snd.snd.snd.snd.snd.snd.snd.snd.snd.fst, x.snd.snd.snd.snd.snd.snd.snd.snd.snd.snd.snd.snd.snd.snd.snd.snd.snd.snd.snd.snd.snd.snd.snd.snd.snd.snd.fst, x.snd.snd.snd.snd.snd.snd.snd.snd.snd.snd.snd.snd.snd.snd.snd.snd.snd.snd.snd.snd.snd.snd.snd.snd.snd.snd.snd))))
set_option maxRecDepth 100000 in
theorem vesperslaw29_BoundsSet.step0_eq (x : vesperslaw29_BoundsSet.X0) : (roundT Try.prog (ctOf t_vesperslaw29_alive) noL 100000 vesperslaw29_BoundsSet.tm0 vesperslaw29_BoundsSet.tr0 0 vesperslaw29_BoundsSet.b0 (vesperslaw29_BoundsSet.encX0 x)).opt (leafD vesperslaw29_BoundsSet.decX0 vesperslaw29_BoundsSet.decY0) = vesperslaw29_BoundsSet.step0 x := by kernel_rfl
noncomputable def vesperslaw29_BoundsSet.lt : LTab := ltOf [(9, 0, vesperslaw29_BoundsSet.k0.lc vesperslaw29_BoundsSet.step0 vesperslaw29_BoundsSet.b0)]
theorem vesperslaw29_BoundsSet.lt_ok : LtOK Try.prog vesperslaw29_BoundsSet.lt := (ltOf_cons named mixed t_vesperslaw29_alive_ok.ct noL_ok vesperslaw29_BoundsSet.k0_ok rfl vesperslaw29_BoundsSet.step0_eq ltOf_nil)
def vesperslaw29_BoundsSet.f (a0_0 : Int) (a0_1 : Int) (a0_2 : Int) (a0_3 : Int) (a0_4 : Int) (a0_5 : Int) (a0_6 : Int) (a0_7 : Int) (a0_8 : Int) (a0_9 : Int) (a0_10 : Int) (a0_11 : Int) (a0_12 : Int) (a0_13 : Int) (a0_14 : Int) (a0_15 : Int) (a1 : Int) (a2 : List Int) (a3 : List Int) (a4 : Int) : Option Bool :=
  ((vesperslaw29_alive.f).bind fun t0 => ((plan_Check.f a0_0 a0_1 a0_2 a0_3 a0_4 a0_5 a0_6 a0_7 a0_8 a0_9 a0_10 a0_11 a0_12 a0_13 a0_14 a0_15).bind fun t1 => (if t1 ≠ 0 then some t0 else (if Int.ofNat a2.length > 50 then some t0 else (if (!t0) = true then some t0 else (if a0_8 = 0 then none else (if wrap64 (wrap64 (2 * wrap64 (Int.tdiv 65536 a0_8)) + 1) = 0 then none else ((rate_Reads.f (wrap64 (wrap64 (65536 - wrap64 (Int.tdiv 65536 a0_8)) + (wrap64 a1).tmod (wrap64 (wrap64 (2 * wrap64 (Int.tdiv 65536 a0_8)) + 1)))) 65536 (wrap64 a4) 0 (wrap64 a4)).bind fun t2 => (if t2.snd ≠ 0 then some false else ((guardEq vesperslaw29_BoundsSet.b0.loop vesperslaw29_BoundsSet.b0.loop (rounds vesperslaw29_BoundsSet.step0 (a2, a3, t0, t2.fst, wrap64 a4, t2.fst, Int.ofNat a2.length, 0, a0_0, a0_1, a0_2, a0_3, a0_4, a0_5, a0_6, a0_7, a0_8, a0_9, a0_10, a0_11, a0_12, a0_13, a0_14, a0_15, wrap64 (wrap64 (65536 - wrap64 (Int.tdiv 65536 a0_8)) + (wrap64 a1).tmod (wrap64 (wrap64 (2 * wrap64 (Int.tdiv 65536 a0_8)) + 1))), 65536, wrap64 a4, 0))).bind fun t3 => (match t3 with | .inl x4 => some x4.snd.snd.fst | .inr y4 => some false)))))))))))
set_option maxRecDepth 100000 in
theorem vesperslaw29_BoundsSet.calls (a0_0 : Int) (a0_1 : Int) (a0_2 : Int) (a0_3 : Int) (a0_4 : Int) (a0_5 : Int) (a0_6 : Int) (a0_7 : Int) (a0_8 : Int) (a0_9 : Int) (a0_10 : Int) (a0_11 : Int) (a0_12 : Int) (a0_13 : Int) (a0_14 : Int) (a0_15 : Int) (a1 : Int) (a2 : List Int) (a3 : List Int) (a4 : Int) (r : Bool) (w : World) (v2 : Value) (h2 : IntsAt w .i64 v2 a2) (v3 : Value) (h3 : IntsAt w .u16 v3 a3) (h : vesperslaw29_BoundsSet.f a0_0 a0_1 a0_2 a0_3 a0_4 a0_5 a0_6 a0_7 a0_8 a0_9 a0_10 a0_11 a0_12 a0_13 a0_14 a0_15 a1 a2 a3 a4 = some r) :
    Calls Try.prog 9 #[.agg #[.int .i64 a0_0, .int .i64 a0_1, .int .i64 a0_2, .int .i64 a0_3, .int .i64 a0_4, .int .i64 a0_5, .int .i64 a0_6, .int .i64 a0_7, .int .i64 a0_8, .int .i64 a0_9, .int .i64 a0_10, .int .i64 a0_11, .int .i64 a0_12, .int .i64 a0_13, .int .i64 a0_14, .int .i64 a0_15], .int .u32 a1, v2, v3, .int .u16 a4] w fun e w' => e = .returned (.bool r) ∧ Below w.heap.size w w' := by
  have ht : (walk Try.prog (ctOf t_vesperslaw29_alive) vesperslaw29_BoundsSet.lt 100000 9 [.agg [.int .i64 (.s a0_0), .int .i64 (.s a0_1), .int .i64 (.s a0_2), .int .i64 (.s a0_3), .int .i64 (.s a0_4), .int .i64 (.s a0_5), .int .i64 (.s a0_6), .int .i64 (.s a0_7), .int .i64 (.s a0_8), .int .i64 (.s a0_9), .int .i64 (.s a0_10), .int .i64 (.s a0_11), .int .i64 (.s a0_12), .int .i64 (.s a0_13), .int .i64 (.s a0_14), .int .i64 (.s a0_15)], .int .u32 (.s a1), .lst 0 .i64 a2, .lst 1 .u16 a3, .int .u16 (.s a4)] [] 0).opt r_bool.dec = vesperslaw29_BoundsSet.f a0_0 a0_1 a0_2 a0_3 a0_4 a0_5 a0_6 a0_7 a0_8 a0_9 a0_10 a0_11 a0_12 a0_13 a0_14 a0_15 a1 a2 a3 a4 := by kernel_rfl
  exact calls_ro named mixed t_vesperslaw29_alive_ok.ct vesperslaw29_BoundsSet.lt_ok ht h w [v2, v3] (xs := [.agg #[.int .i64 a0_0, .int .i64 a0_1, .int .i64 a0_2, .int .i64 a0_3, .int .i64 a0_4, .int .i64 a0_5, .int .i64 a0_6, .int .i64 a0_7, .int .i64 a0_8, .int .i64 a0_9, .int .i64 a0_10, .int .i64 a0_11, .int .i64 a0_12, .int .i64 a0_13, .int .i64 a0_14, .int .i64 a0_15], .int .u32 a1, v2, v3, .int .u16 a4]) (relL_cons (flatV (by kernel_rfl) (by kernel_rfl)) (relL_cons (flatV (by kernel_rfl) (by kernel_rfl)) (relL_cons (rel_lst h2 rfl) (relL_cons (rel_lst h3 rfl) (relL_cons (flatV (by kernel_rfl) (by kernel_rfl)) rfl))))) fun _ _ _ _ _ hd hx => r_bool.ok hd hx
/-- The pure statement of vesperslaw29_BoundsSet. -/
def vesperslaw29_BoundsSet.Pure : Prop := ∀ (a0_0 : Int) (a0_1 : Int) (a0_2 : Int) (a0_3 : Int) (a0_4 : Int) (a0_5 : Int) (a0_6 : Int) (a0_7 : Int) (a0_8 : Int) (a0_9 : Int) (a0_10 : Int) (a0_11 : Int) (a0_12 : Int) (a0_13 : Int) (a0_14 : Int) (a0_15 : Int) (a1 : Int) (a2 : List Int) (a3 : List Int) (a4 : Int), (Lit.int .i64 a0_0).wf = true → (Lit.int .i64 a0_1).wf = true → (Lit.int .i64 a0_2).wf = true → (Lit.int .i64 a0_3).wf = true → (Lit.int .i64 a0_4).wf = true → (Lit.int .i64 a0_5).wf = true → (Lit.int .i64 a0_6).wf = true → (Lit.int .i64 a0_7).wf = true → (Lit.int .i64 a0_8).wf = true → (Lit.int .i64 a0_9).wf = true → (Lit.int .i64 a0_10).wf = true → (Lit.int .i64 a0_11).wf = true → (Lit.int .i64 a0_12).wf = true → (Lit.int .i64 a0_13).wf = true → (Lit.int .i64 a0_14).wf = true → (Lit.int .i64 a0_15).wf = true → (Lit.int .u32 a1).wf = true → (∀ x ∈ a2, (Lit.int .i64 x).wf = true) → (∀ x ∈ a3, (Lit.int .u16 x).wf = true) → (Lit.int .u16 a4).wf = true → vesperslaw29_BoundsSet.f a0_0 a0_1 a0_2 a0_3 a0_4 a0_5 a0_6 a0_7 a0_8 a0_9 a0_10 a0_11 a0_12 a0_13 a0_14 a0_15 a1 a2 a3 a4 = some true
theorem vesperslaw29_BoundsSet.walk (P : vesperslaw29_BoundsSet.Pure) (a0_0 : Int) (a0_1 : Int) (a0_2 : Int) (a0_3 : Int) (a0_4 : Int) (a0_5 : Int) (a0_6 : Int) (a0_7 : Int) (a0_8 : Int) (a0_9 : Int) (a0_10 : Int) (a0_11 : Int) (a0_12 : Int) (a0_13 : Int) (a0_14 : Int) (a0_15 : Int) (a1 : Int) (a2 : List Int) (a3 : List Int) (a4 : Int) (w : World) (w0_0 : (Lit.int .i64 a0_0).wf = true) (w0_1 : (Lit.int .i64 a0_1).wf = true) (w0_2 : (Lit.int .i64 a0_2).wf = true) (w0_3 : (Lit.int .i64 a0_3).wf = true) (w0_4 : (Lit.int .i64 a0_4).wf = true) (w0_5 : (Lit.int .i64 a0_5).wf = true) (w0_6 : (Lit.int .i64 a0_6).wf = true) (w0_7 : (Lit.int .i64 a0_7).wf = true) (w0_8 : (Lit.int .i64 a0_8).wf = true) (w0_9 : (Lit.int .i64 a0_9).wf = true) (w0_10 : (Lit.int .i64 a0_10).wf = true) (w0_11 : (Lit.int .i64 a0_11).wf = true) (w0_12 : (Lit.int .i64 a0_12).wf = true) (w0_13 : (Lit.int .i64 a0_13).wf = true) (w0_14 : (Lit.int .i64 a0_14).wf = true) (w0_15 : (Lit.int .i64 a0_15).wf = true) (w1 : (Lit.int .u32 a1).wf = true) (w2 : (∀ x ∈ a2, (Lit.int .i64 x).wf = true)) (w3 : (∀ x ∈ a3, (Lit.int .u16 x).wf = true)) (w4 : (Lit.int .u16 a4).wf = true) (v2 : Value) (h2 : IntsAt w .i64 v2 a2) (v3 : Value) (h3 : IntsAt w .u16 v3 a3) :
    Calls Try.prog 9 #[.agg #[.int .i64 a0_0, .int .i64 a0_1, .int .i64 a0_2, .int .i64 a0_3, .int .i64 a0_4, .int .i64 a0_5, .int .i64 a0_6, .int .i64 a0_7, .int .i64 a0_8, .int .i64 a0_9, .int .i64 a0_10, .int .i64 a0_11, .int .i64 a0_12, .int .i64 a0_13, .int .i64 a0_14, .int .i64 a0_15], .int .u32 a1, v2, v3, .int .u16 a4] w fun e w' => e = .returned (.bool true) ∧ Below w.heap.size w w' :=
  vesperslaw29_BoundsSet.calls a0_0 a0_1 a0_2 a0_3 a0_4 a0_5 a0_6 a0_7 a0_8 a0_9 a0_10 a0_11 a0_12 a0_13 a0_14 a0_15 a1 a2 a3 a4 true w v2 h2 v3 h3 (P a0_0 a0_1 a0_2 a0_3 a0_4 a0_5 a0_6 a0_7 a0_8 a0_9 a0_10 a0_11 a0_12 a0_13 a0_14 a0_15 a1 a2 a3 a4 w0_0 w0_1 w0_2 w0_3 w0_4 w0_5 w0_6 w0_7 w0_8 w0_9 w0_10 w0_11 w0_12 w0_13 w0_14 w0_15 w1 w2 w3 w4)
noncomputable abbrev tab_S6 : List (Nat × Entry) := t_vesperslaw29_alive
theorem tab_S6_ok : TabOK Try.prog tab_S6 := t_vesperslaw29_alive_ok
end
end Go.Proofs.Ytgoilclgehipmaa.S
