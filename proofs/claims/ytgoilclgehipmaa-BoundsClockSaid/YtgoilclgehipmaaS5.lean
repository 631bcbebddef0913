/- Contracts by the symbolic walk: rate_Check, rate_clock_gone, rate_clock_ticks, rate_Reads, rate_Keeps, rate_When, rate_Set, vesperslaw29_alive, vesperslaw29_BoundsClock. -/
import Derived.Test.YtgoilclgehipmaaProg
import Derived.Test.YtgoilclgehipmaaSXj
import Derived.Test.YtgoilclgehipmaaS1
namespace Go.Proofs.Ytgoilclgehipmaa.S
open Go Go.RowKit Go.Proofs.Ytgoilclgehipmaa.SX Go.Proofs
set_option linter.unusedVariables false
def g_i64x4 (args : List AV) (f : Int → Int → Int → Int → List AV → Option Con) : Option Con := aG args fun l r => aI .i64 l fun x0 l => aI .i64 l fun x1 l => aI .i64 l fun x2 l => aI .i64 l fun x3 l => aN l (f x0 x1 x2 x3 r)
theorem g_i64x4_ok {ρ : List Nat} {args : List AV} {xs : List Value} {c : Con} {f : Int → Int → Int → Int → List AV → Option Con} (h : g_i64x4 args f = some c) (hx : AV.relL ρ args xs) :
    ∃ x0 x1 x2 x3 xs' l, xs = .agg #[.int .i64 x0, .int .i64 x1, .int .i64 x2, .int .i64 x3] :: xs' ∧ AV.relL ρ l xs' ∧ f x0 x1 x2 x3 l = some c := by
  unfold g_i64x4 at h
  obtain ⟨vs, xs', l, r, rfl, hl, hr, h⟩ := aG_ok h hx
  clear hx
  obtain ⟨x0, vs, l, rfl, hl, h⟩ := aI_ok h hl
  obtain ⟨x1, vs, l, rfl, hl, h⟩ := aI_ok h hl
  obtain ⟨x2, vs, l, rfl, hl, h⟩ := aI_ok h hl
  obtain ⟨x3, vs, l, rfl, hl, h⟩ := aI_ok h hl
  obtain ⟨rfl, h⟩ := aN_ok h hl
  exact ⟨x0, x1, x2, x3, xs', r, rfl, hr, h⟩
def rate_Check.f (a0_0 : Int) (a0_1 : Int) (a0_2 : Int) (a0_3 : Int) : Option Int :=
  (if a0_1 ≥ 1 then (if (!decide (a0_1 ≤ 65536)) = true then some 60 else (if a0_0 ≥ 1 then (if (!decide (a0_0 ≤ wrap64 (2 * a0_1))) = true then some 60 else (if a0_2 ≥ 0 then (if (!decide (a0_2 ≤ 4294967296)) = true then some 60 else (if a0_3 ≥ -4294967296 then (if (!decide (a0_3 ≤ 4294967296)) = true then some 60 else some 0) else some 60)) else some 60)) else some 60)) else some 60)
set_option maxRecDepth 100000 in
theorem rate_Check.calls (a0_0 : Int) (a0_1 : Int) (a0_2 : Int) (a0_3 : Int) (r : Int) (w : World) (h : rate_Check.f a0_0 a0_1 a0_2 a0_3 = some r) :
    Calls Try.prog 52 #[.agg #[.int .i64 a0_0, .int .i64 a0_1, .int .i64 a0_2, .int .i64 a0_3]] w fun e w' => e = .returned (.int .i64 r) ∧ Below w.heap.size w w' := by
  have ht : (walk Try.prog (ctOf tab_S1) noL 100000 52 [.agg [.int .i64 (.s a0_0), .int .i64 (.s a0_1), .int .i64 (.s a0_2), .int .i64 (.s a0_3)]] [] 0).opt r_i64.dec = rate_Check.f a0_0 a0_1 a0_2 a0_3 := by kernel_rfl
  exact calls_of named mixed tab_S1_ok.ct noL_ok ht h (by kernel_rfl) (by kernel_rfl) w fun _ _ _ _ _ hd hx => r_i64.ok hd hx
noncomputable def rate_Check.c : Entry := fun args _ => g_i64x4 args fun a0_0 a0_1 a0_2 a0_3 args => aN args (some { o := rate_Check.f a0_0 a0_1 a0_2 a0_3, enc := r_i64.enc })
theorem rate_Check.ok : EntryOK Try.prog 52 rate_Check.c := by
  intro args H c h r hr ρ hn w xs hx hrel
  unfold rate_Check.c at h
  obtain ⟨a0_0, a0_1, a0_2, a0_3, xs, args, rfl, hx, h⟩ := g_i64x4_ok h hx
  obtain ⟨rfl, h⟩ := aN_ok h hx
  cases h
  refine (rate_Check.calls a0_0 a0_1 a0_2 a0_3 r w hr).mono ?_
  rintro e w' ⟨rfl, hb⟩
  exact ⟨_, rfl, r_i64.enc_rel ρ r, hrel.below hb, Eff.of_below hb⟩
noncomputable def t_rate_Check : List (Nat × Entry) := (52, rate_Check.c) :: tab_S1
theorem t_rate_Check_ok : TabOK Try.prog t_rate_Check := TabOK.cons rate_Check.ok tab_S1_ok
def rate_clock_gone.f (a0_0 : Int) (a0_1 : Int) (a0_2 : Int) (a0_3 : Int) (a1 : Int) : Option Int :=
  (if a0_1 = 0 then none else some (wrap64 ((wrap64 (a0_0 * a1)).tdiv a0_1)))
set_option maxRecDepth 100000 in
theorem rate_clock_gone.calls (a0_0 : Int) (a0_1 : Int) (a0_2 : Int) (a0_3 : Int) (a1 : Int) (r : Int) (w : World) (h : rate_clock_gone.f a0_0 a0_1 a0_2 a0_3 a1 = some r) :
    Calls Try.prog 53 #[.agg #[.int .i64 a0_0, .int .i64 a0_1, .int .i64 a0_2, .int .i64 a0_3], .int .i64 a1] w fun e w' => e = .returned (.int .i64 r) ∧ Below w.heap.size w w' := by
  have ht : (walk Try.prog (ctOf t_rate_Check) noL 100000 53 [.agg [.int .i64 (.s a0_0), .int .i64 (.s a0_1), .int .i64 (.s a0_2), .int .i64 (.s a0_3)], .int .i64 (.s a1)] [] 0).opt r_i64.dec = rate_clock_gone.f a0_0 a0_1 a0_2 a0_3 a1 := by kernel_rfl
  exact calls_of named mixed t_rate_Check_ok.ct noL_ok ht h (by kernel_rfl) (by kernel_rfl) w fun _ _ _ _ _ hd hx => r_i64.ok hd hx
noncomputable def rate_clock_gone.c : Entry := fun args _ => g_i64x4 args fun a0_0 a0_1 a0_2 a0_3 args => aI .i64 args fun a1 args => aN args (some { o := rate_clock_gone.f a0_0 a0_1 a0_2 a0_3 a1, enc := r_i64.enc })
theorem rate_clock_gone.ok : EntryOK Try.prog 53 rate_clock_gone.c := by
  intro args H c h r hr ρ hn w xs hx hrel
  unfold rate_clock_gone.c at h
  obtain ⟨a0_0, a0_1, a0_2, a0_3, xs, args, rfl, hx, h⟩ := g_i64x4_ok h hx
  obtain ⟨a1, xs, args, rfl, hx, h⟩ := aI_ok h hx
  obtain ⟨rfl, h⟩ := aN_ok h hx
  cases h
  refine (rate_clock_gone.calls a0_0 a0_1 a0_2 a0_3 a1 r w hr).mono ?_
  rintro e w' ⟨rfl, hb⟩
  exact ⟨_, rfl, r_i64.enc_rel ρ r, hrel.below hb, Eff.of_below hb⟩
noncomputable def t_rate_clock_gone : List (Nat × Entry) := (53, rate_clock_gone.c) :: t_rate_Check
theorem t_rate_clock_gone_ok : TabOK Try.prog t_rate_clock_gone := TabOK.cons rate_clock_gone.ok t_rate_Check_ok
def rate_clock_ticks.f (a0_0 : Int) (a0_1 : Int) (a0_2 : Int) (a0_3 : Int) (a1 : Int) : Option Int :=
  (if a0_0 = 0 then none else some (wrap64 ((wrap64 (wrap64 (wrap64 (a1 * a0_1) + a0_0) - 1)).tdiv a0_0)))
set_option maxRecDepth 100000 in
theorem rate_clock_ticks.calls (a0_0 : Int) (a0_1 : Int) (a0_2 : Int) (a0_3 : Int) (a1 : Int) (r : Int) (w : World) (h : rate_clock_ticks.f a0_0 a0_1 a0_2 a0_3 a1 = some r) :
    Calls Try.prog 60 #[.agg #[.int .i64 a0_0, .int .i64 a0_1, .int .i64 a0_2, .int .i64 a0_3], .int .i64 a1] w fun e w' => e = .returned (.int .i64 r) ∧ Below w.heap.size w w' := by
  have ht : (walk Try.prog (ctOf t_rate_clock_gone) noL 100000 60 [.agg [.int .i64 (.s a0_0), .int .i64 (.s a0_1), .int .i64 (.s a0_2), .int .i64 (.s a0_3)], .int .i64 (.s a1)] [] 0).opt r_i64.dec = rate_clock_ticks.f a0_0 a0_1 a0_2 a0_3 a1 := by kernel_rfl
  exact calls_of named mixed t_rate_clock_gone_ok.ct noL_ok ht h (by kernel_rfl) (by kernel_rfl) w fun _ _ _ _ _ hd hx => r_i64.ok hd hx
noncomputable def rate_clock_ticks.c : Entry := fun args _ => g_i64x4 args fun a0_0 a0_1 a0_2 a0_3 args => aI .i64 args fun a1 args => aN args (some { o := rate_clock_ticks.f a0_0 a0_1 a0_2 a0_3 a1, enc := r_i64.enc })
theorem rate_clock_ticks.ok : EntryOK Try.prog 60 rate_clock_ticks.c := by
  intro args H c h r hr ρ hn w xs hx hrel
  unfold rate_clock_ticks.c at h
  obtain ⟨a0_0, a0_1, a0_2, a0_3, xs, args, rfl, hx, h⟩ := g_i64x4_ok h hx
  obtain ⟨a1, xs, args, rfl, hx, h⟩ := aI_ok h hx
  obtain ⟨rfl, h⟩ := aN_ok h hx
  cases h
  refine (rate_clock_ticks.calls a0_0 a0_1 a0_2 a0_3 a1 r w hr).mono ?_
  rintro e w' ⟨rfl, hb⟩
  exact ⟨_, rfl, r_i64.enc_rel ρ r, hrel.below hb, Eff.of_below hb⟩
noncomputable def t_rate_clock_ticks : List (Nat × Entry) := (60, rate_clock_ticks.c) :: t_rate_clock_gone
theorem t_rate_clock_ticks_ok : TabOK Try.prog t_rate_clock_ticks := TabOK.cons rate_clock_ticks.ok t_rate_clock_gone_ok
def rate_Reads.f (a0_0 : Int) (a0_1 : Int) (a0_2 : Int) (a0_3 : Int) (a1 : Int) : Option (Int × Int) :=
  ((rate_Check.f a0_0 a0_1 a0_2 a0_3).bind fun t0 => (if t0 ≠ 0 then some (0, 60) else (if a1 < a0_2 then some (0, 60) else (if a1 > 4294967296 then some (0, 60) else ((rate_clock_gone.f a0_0 a0_1 a0_2 a0_3 (wrap64 (a1 - a0_2))).bind fun t1 => some (wrap64 (t1 + a0_3), 0))))))
set_option maxRecDepth 100000 in
theorem rate_Reads.calls (a0_0 : Int) (a0_1 : Int) (a0_2 : Int) (a0_3 : Int) (a1 : Int) (r1 : Int) (r2 : Int) (w : World) (h : rate_Reads.f a0_0 a0_1 a0_2 a0_3 a1 = some (r1, r2)) :
    Calls Try.prog 28 #[.agg #[.int .i64 a0_0, .int .i64 a0_1, .int .i64 a0_2, .int .i64 a0_3], .int .i64 a1] w fun e w' => e = .returned (.tuple #[.int .i64 r1, .int .i64 r2]) ∧ Below w.heap.size w w' := by
  have ht : (walk Try.prog (ctOf t_rate_clock_ticks) noL 100000 28 [.agg [.int .i64 (.s a0_0), .int .i64 (.s a0_1), .int .i64 (.s a0_2), .int .i64 (.s a0_3)], .int .i64 (.s a1)] [] 0).opt r_i64_i64.dec = rate_Reads.f a0_0 a0_1 a0_2 a0_3 a1 := by kernel_rfl
  exact calls_of named mixed t_rate_clock_ticks_ok.ct noL_ok ht h (by kernel_rfl) (by kernel_rfl) w fun _ _ _ _ _ hd hx => r_i64_i64.ok hd hx
noncomputable def rate_Reads.c : Entry := fun args _ => g_i64x4 args fun a0_0 a0_1 a0_2 a0_3 args => aI .i64 args fun a1 args => aN args (some { o := rate_Reads.f a0_0 a0_1 a0_2 a0_3 a1, enc := r_i64_i64.enc })
theorem rate_Reads.ok : EntryOK Try.prog 28 rate_Reads.c := by
  intro args H c h r hr ρ hn w xs hx hrel
  unfold rate_Reads.c at h
  obtain ⟨a0_0, a0_1, a0_2, a0_3, xs, args, rfl, hx, h⟩ := g_i64x4_ok h hx
  obtain ⟨a1, xs, args, rfl, hx, h⟩ := aI_ok h hx
  obtain ⟨rfl, h⟩ := aN_ok h hx
  cases h
  obtain ⟨r1, r2⟩ := r
  refine (rate_Reads.calls a0_0 a0_1 a0_2 a0_3 a1 r1 r2 w hr).mono ?_
  rintro e w' ⟨rfl, hb⟩
  exact ⟨_, rfl, r_i64_i64.enc_rel ρ (r1, r2), hrel.below hb, Eff.of_below hb⟩
noncomputable def t_rate_Reads : List (Nat × Entry) := (28, rate_Reads.c) :: t_rate_clock_ticks
theorem t_rate_Reads_ok : TabOK Try.prog t_rate_Reads := TabOK.cons rate_Reads.ok t_rate_clock_ticks_ok
def g_i64x2 (args : List AV) (f : Int → Int → List AV → Option Con) : Option Con := aG args fun l r => aI .i64 l fun x0 l => aI .i64 l fun x1 l => aN l (f x0 x1 r)
theorem g_i64x2_ok {ρ : List Nat} {args : List AV} {xs : List Value} {c : Con} {f : Int → Int → List AV → Option Con} (h : g_i64x2 args f = some c) (hx : AV.relL ρ args xs) :
    ∃ x0 x1 xs' l, xs = .agg #[.int .i64 x0, .int .i64 x1] :: xs' ∧ AV.relL ρ l xs' ∧ f x0 x1 l = some c := by
  unfold g_i64x2 at h
  obtain ⟨vs, xs', l, r, rfl, hl, hr, h⟩ := aG_ok h hx
  clear hx
  obtain ⟨x0, vs, l, rfl, hl, h⟩ := aI_ok h hl
  obtain ⟨x1, vs, l, rfl, hl, h⟩ := aI_ok h hl
  obtain ⟨rfl, h⟩ := aN_ok h hl
  exact ⟨x0, x1, xs', r, rfl, hr, h⟩
def rate_Keeps.f (a0_0 : Int) (a0_1 : Int) (a1 : Int) : Option Int :=
  ((rate_Check.f a0_0 a0_1 0 0).bind fun t0 => (if t0 ≠ 0 then some 60 else (if a1 < 4 then some 60 else (if a1 > 1048576 then some 60 else (if (!(decide (a0_0 = a0_1) && (decide (a0_1 = a0_1) && true))) = true then (if wrap64 (a1 * if wrap64 (0 - wrap64 (a0_0 - a0_1)) > wrap64 (a0_0 - a0_1) then wrap64 (0 - wrap64 (a0_0 - a0_1)) else wrap64 (a0_0 - a0_1)) > a0_1 then some 60 else some 0) else some 0)))))
set_option maxRecDepth 100000 in
theorem rate_Keeps.calls (a0_0 : Int) (a0_1 : Int) (a1 : Int) (r : Int) (w : World) (h : rate_Keeps.f a0_0 a0_1 a1 = some r) :
    Calls Try.prog 29 #[.agg #[.int .i64 a0_0, .int .i64 a0_1], .int .i64 a1] w fun e w' => e = .returned (.int .i64 r) ∧ Below w.heap.size w w' := by
  have ht : (walk Try.prog (ctOf t_rate_Reads) noL 100000 29 [.agg [.int .i64 (.s a0_0), .int .i64 (.s a0_1)], .int .i64 (.s a1)] [] 0).opt r_i64.dec = rate_Keeps.f a0_0 a0_1 a1 := by kernel_rfl
  exact calls_of named mixed t_rate_Reads_ok.ct noL_ok ht h (by kernel_rfl) (by kernel_rfl) w fun _ _ _ _ _ hd hx => r_i64.ok hd hx
noncomputable def rate_Keeps.c : Entry := fun args _ => g_i64x2 args fun a0_0 a0_1 args => aI .i64 args fun a1 args => aN args (some { o := rate_Keeps.f a0_0 a0_1 a1, enc := r_i64.enc })
theorem rate_Keeps.ok : EntryOK Try.prog 29 rate_Keeps.c := by
  intro args H c h r hr ρ hn w xs hx hrel
  unfold rate_Keeps.c at h
  obtain ⟨a0_0, a0_1, xs, args, rfl, hx, h⟩ := g_i64x2_ok h hx
  obtain ⟨a1, xs, args, rfl, hx, h⟩ := aI_ok h hx
  obtain ⟨rfl, h⟩ := aN_ok h hx
  cases h
  refine (rate_Keeps.calls a0_0 a0_1 a1 r w hr).mono ?_
  rintro e w' ⟨rfl, hb⟩
  exact ⟨_, rfl, r_i64.enc_rel ρ r, hrel.below hb, Eff.of_below hb⟩
noncomputable def t_rate_Keeps : List (Nat × Entry) := (29, rate_Keeps.c) :: t_rate_Reads
theorem t_rate_Keeps_ok : TabOK Try.prog t_rate_Keeps := TabOK.cons rate_Keeps.ok t_rate_Reads_ok
def rate_When.f (a0_0 : Int) (a0_1 : Int) (a0_2 : Int) (a0_3 : Int) (a1 : Int) : Option (Int × Int) :=
  ((rate_Check.f a0_0 a0_1 a0_2 a0_3).bind fun t0 => (if t0 ≠ 0 then some (0, 60) else ((rate_Reads.f a0_0 a0_1 a0_2 a0_3 4294967296).bind fun t1 => (if a1 > t1.fst then some (0, 61) else (if a1 ≤ a0_3 then some (a0_2, 0) else ((rate_clock_ticks.f a0_0 a0_1 a0_2 a0_3 (wrap64 (a1 - a0_3))).bind fun t2 => some (wrap64 (a0_2 + t2), 0)))))))
set_option maxRecDepth 100000 in
theorem rate_When.calls (a0_0 : Int) (a0_1 : Int) (a0_2 : Int) (a0_3 : Int) (a1 : Int) (r1 : Int) (r2 : Int) (w : World) (h : rate_When.f a0_0 a0_1 a0_2 a0_3 a1 = some (r1, r2)) :
    Calls Try.prog 33 #[.agg #[.int .i64 a0_0, .int .i64 a0_1, .int .i64 a0_2, .int .i64 a0_3], .int .i64 a1] w fun e w' => e = .returned (.tuple #[.int .i64 r1, .int .i64 r2]) ∧ Below w.heap.size w w' := by
  have ht : (walk Try.prog (ctOf t_rate_Keeps) noL 100000 33 [.agg [.int .i64 (.s a0_0), .int .i64 (.s a0_1), .int .i64 (.s a0_2), .int .i64 (.s a0_3)], .int .i64 (.s a1)] [] 0).opt r_i64_i64.dec = rate_When.f a0_0 a0_1 a0_2 a0_3 a1 := by kernel_rfl
  exact calls_of named mixed t_rate_Keeps_ok.ct noL_ok ht h (by kernel_rfl) (by kernel_rfl) w fun _ _ _ _ _ hd hx => r_i64_i64.ok hd hx
noncomputable def rate_When.c : Entry := fun args _ => g_i64x4 args fun a0_0 a0_1 a0_2 a0_3 args => aI .i64 args fun a1 args => aN args (some { o := rate_When.f a0_0 a0_1 a0_2 a0_3 a1, enc := r_i64_i64.enc })
theorem rate_When.ok : EntryOK Try.prog 33 rate_When.c := by
  intro args H c h r hr ρ hn w xs hx hrel
  unfold rate_When.c at h
  obtain ⟨a0_0, a0_1, a0_2, a0_3, xs, args, rfl, hx, h⟩ := g_i64x4_ok h hx
  obtain ⟨a1, xs, args, rfl, hx, h⟩ := aI_ok h hx
  obtain ⟨rfl, h⟩ := aN_ok h hx
  cases h
  obtain ⟨r1, r2⟩ := r
  refine (rate_When.calls a0_0 a0_1 a0_2 a0_3 a1 r1 r2 w hr).mono ?_
  rintro e w' ⟨rfl, hb⟩
  exact ⟨_, rfl, r_i64_i64.enc_rel ρ (r1, r2), hrel.below hb, Eff.of_below hb⟩
noncomputable def t_rate_When : List (Nat × Entry) := (33, rate_When.c) :: t_rate_Keeps
theorem t_rate_When_ok : TabOK Try.prog t_rate_When := TabOK.cons rate_When.ok t_rate_Keeps_ok
def r_i64x4_i64.dec : AV → Heap → Nat → Option (Int × Int × Int × Int × Int)
  | .tup [.agg [x0, x1, x2, x3], x4], _, _ => (dI .i64 x0).bind fun n0 => (dI .i64 x1).bind fun n1 => (dI .i64 x2).bind fun n2 => (dI .i64 x3).bind fun n3 => (dI .i64 x4).bind fun n4 => some (n0, n1, n2, n3, n4)
  | _, _, _ => none
def r_i64x4_i64.enc (r : Int × Int × Int × Int × Int) : AV := .tup [.agg [.int .i64 (.s r.1), .int .i64 (.s r.2.1), .int .i64 (.s r.2.2.1), .int .i64 (.s r.2.2.2.1)], .int .i64 (.s r.2.2.2.2)]
abbrev r_i64x4_i64.val (r : Int × Int × Int × Int × Int) : Value := .tuple #[.agg #[.int .i64 r.1, .int .i64 r.2.1, .int .i64 r.2.2.1, .int .i64 r.2.2.2.1], .int .i64 r.2.2.2.2]
theorem r_i64x4_i64.enc_rel (ρ : List Nat) (r : Int × Int × Int × Int × Int) : (r_i64x4_i64.enc r).rel ρ (r_i64x4_i64.val r) := AV.flat_rel _ rfl
theorem r_i64x4_i64.ok {v : AV} {H : Heap} {hn : Nat} {r : Int × Int × Int × Int × Int} {ρ : List Nat} {x : Value} (h : r_i64x4_i64.dec v H hn = some r) (hx : v.rel ρ x) : x = r_i64x4_i64.val r := by
  unfold r_i64x4_i64.dec at h
  split at h
  · obtain ⟨n0, e0, h⟩ := Option.bind_eq_some_iff.1 h
    obtain ⟨n1, e1, h⟩ := Option.bind_eq_some_iff.1 h
    obtain ⟨n2, e2, h⟩ := Option.bind_eq_some_iff.1 h
    obtain ⟨n3, e3, h⟩ := Option.bind_eq_some_iff.1 h
    obtain ⟨n4, e4, h⟩ := Option.bind_eq_some_iff.1 h
    cases h
    obtain ⟨z, hx, rfl⟩ := hx
    obtain ⟨y1, y2, hy1, hx, rfl⟩ := hx
    obtain ⟨y3, hy1, rfl⟩ := hy1
    obtain ⟨y4, y5, hy4, hy1, rfl⟩ := hy1
    obtain rfl := dI_ok e0 hy4
    obtain ⟨y6, y7, hy6, hy1, rfl⟩ := hy1
    obtain rfl := dI_ok e1 hy6
    obtain ⟨y8, y9, hy8, hy1, rfl⟩ := hy1
    obtain rfl := dI_ok e2 hy8
    obtain ⟨y10, y11, hy10, hy1, rfl⟩ := hy1
    obtain rfl := dI_ok e3 hy10
    obtain rfl := (show _ = [] from hy1)
    obtain ⟨y12, y13, hy12, hx, rfl⟩ := hx
    obtain rfl := dI_ok e4 hy12
    obtain rfl := (show _ = [] from hx)
    rfl
  · cases h
def rate_Set.f (a0_0 : Int) (a0_1 : Int) (a0_2 : Int) (a0_3 : Int) (a1 : Int) : Option (Int × Int × Int × Int × Int) :=
  ((rate_Check.f a0_0 a0_1 a0_2 a0_3).bind fun t0 => (if t0 ≠ 0 then some (0, 0, 0, 0, 60) else (if a1 < -8589934592 then some (0, 0, 0, 0, 60) else (if a1 > 8589934592 then some (0, 0, 0, 0, 60) else ((rate_Check.f a0_0 a0_1 a0_2 (wrap64 (a0_3 + a1))).bind fun t1 => (if t1 ≠ 0 then some (0, 0, 0, 0, t1) else some (a0_0, a0_1, a0_2, wrap64 (a0_3 + a1), 0)))))))
set_option maxRecDepth 100000 in
theorem rate_Set.calls (a0_0 : Int) (a0_1 : Int) (a0_2 : Int) (a0_3 : Int) (a1 : Int) (r1 : Int) (r2 : Int) (r3 : Int) (r4 : Int) (r5 : Int) (w : World) (h : rate_Set.f a0_0 a0_1 a0_2 a0_3 a1 = some (r1, r2, r3, r4, r5)) :
    Calls Try.prog 34 #[.agg #[.int .i64 a0_0, .int .i64 a0_1, .int .i64 a0_2, .int .i64 a0_3], .int .i64 a1] w fun e w' => e = .returned (.tuple #[.agg #[.int .i64 r1, .int .i64 r2, .int .i64 r3, .int .i64 r4], .int .i64 r5]) ∧ Below w.heap.size w w' := by
  have ht : (walk Try.prog (ctOf t_rate_When) noL 100000 34 [.agg [.int .i64 (.s a0_0), .int .i64 (.s a0_1), .int .i64 (.s a0_2), .int .i64 (.s a0_3)], .int .i64 (.s a1)] [] 0).opt r_i64x4_i64.dec = rate_Set.f a0_0 a0_1 a0_2 a0_3 a1 := by kernel_rfl
  exact calls_of named mixed t_rate_When_ok.ct noL_ok ht h (by kernel_rfl) (by kernel_rfl) w fun _ _ _ _ _ hd hx => r_i64x4_i64.ok hd hx
noncomputable def rate_Set.c : Entry := fun args _ => g_i64x4 args fun a0_0 a0_1 a0_2 a0_3 args => aI .i64 args fun a1 args => aN args (some { o := rate_Set.f a0_0 a0_1 a0_2 a0_3 a1, enc := r_i64x4_i64.enc })
theorem rate_Set.ok : EntryOK Try.prog 34 rate_Set.c := by
  intro args H c h r hr ρ hn w xs hx hrel
  unfold rate_Set.c at h
  obtain ⟨a0_0, a0_1, a0_2, a0_3, xs, args, rfl, hx, h⟩ := g_i64x4_ok h hx
  obtain ⟨a1, xs, args, rfl, hx, h⟩ := aI_ok h hx
  obtain ⟨rfl, h⟩ := aN_ok h hx
  cases h
  obtain ⟨r1, r2, r3, r4, r5⟩ := r
  refine (rate_Set.calls a0_0 a0_1 a0_2 a0_3 a1 r1 r2 r3 r4 r5 w hr).mono ?_
  rintro e w' ⟨rfl, hb⟩
  exact ⟨_, rfl, r_i64x4_i64.enc_rel ρ (r1, r2, r3, r4, r5), hrel.below hb, Eff.of_below hb⟩
noncomputable def t_rate_Set : List (Nat × Entry) := (34, rate_Set.c) :: t_rate_When
theorem t_rate_Set_ok : TabOK Try.prog t_rate_Set := TabOK.cons rate_Set.ok t_rate_When_ok
def vesperslaw29_alive.f  : Option Bool :=
  some true
set_option maxRecDepth 100000 in
theorem vesperslaw29_alive.calls (r : Bool) (w : World) (h : vesperslaw29_alive.f = some r) :
    Calls Try.prog 25 #[] w fun e w' => e = .returned (.bool r) ∧ Below w.heap.size w w' := by
  have ht : (walk Try.prog (ctOf []) noL 100000 25 [] [] 0).opt r_bool.dec = vesperslaw29_alive.f := by kernel_rfl
  exact calls_of named mixed (TabOK.nil).ct noL_ok ht h (by kernel_rfl) (by kernel_rfl) w fun _ _ _ _ _ hd hx => r_bool.ok hd hx
noncomputable def vesperslaw29_alive.c : Entry := fun args _ => aN args (some { o := vesperslaw29_alive.f, enc := r_bool.enc })
theorem vesperslaw29_alive.ok : EntryOK Try.prog 25 vesperslaw29_alive.c := by
  intro args H c h r hr ρ hn w xs hx hrel
  unfold vesperslaw29_alive.c at h
  obtain ⟨rfl, h⟩ := aN_ok h hx
  cases h
  refine (vesperslaw29_alive.calls r w hr).mono ?_
  rintro e w' ⟨rfl, hb⟩
  exact ⟨_, rfl, r_bool.enc_rel ρ r, hrel.below hb, Eff.of_below hb⟩
noncomputable def t_vesperslaw29_alive : List (Nat × Entry) := (25, vesperslaw29_alive.c) :: t_rate_Set
theorem t_vesperslaw29_alive_ok : TabOK Try.prog t_vesperslaw29_alive := TabOK.cons vesperslaw29_alive.ok t_rate_Set_ok
def vesperslaw29_BoundsClock.f (a0_0 : Int) (a0_1 : Int) (a0_2 : Int) (a0_3 : Int) (a0_4 : Int) (a0_5 : Int) (a0_6 : Int) (a0_7 : Int) (a0_8 : Int) (a0_9 : Int) (a0_10 : Int) (a0_11 : Int) (a0_12 : Int) (a0_13 : Int) (a0_14 : Int) (a0_15 : Int) (a1 : Int) (a2 : Int) (a3 : Int) : Option Bool :=
  ((vesperslaw29_alive.f).bind fun t0 => ((plan_Check.f a0_0 a0_1 a0_2 a0_3 a0_4 a0_5 a0_6 a0_7 a0_8 a0_9 a0_10 a0_11 a0_12 a0_13 a0_14 a0_15).bind fun t1 => (if t1 ≠ 0 then some t0 else (if (!t0) = true then some t0 else (if a0_8 = 0 then none else (if wrap64 (wrap64 (2 * wrap64 (Int.tdiv 65536 a0_8)) + 1) = 0 then none else ((rate_Reads.f (wrap64 (wrap64 (65536 - wrap64 (Int.tdiv 65536 a0_8)) + (wrap64 a1).tmod (wrap64 (wrap64 (2 * wrap64 (Int.tdiv 65536 a0_8)) + 1)))) 65536 0 0 (wrap64 (if a3 < a2 then a3 else a2))).bind fun t2 => ((rate_Reads.f (wrap64 (wrap64 (65536 - wrap64 (Int.tdiv 65536 a0_8)) + (wrap64 a1).tmod (wrap64 (wrap64 (2 * wrap64 (Int.tdiv 65536 a0_8)) + 1)))) 65536 0 0 (wrap64 (if a3 > a2 then a3 else a2))).bind fun t3 => ((bounds_Goes.f a0_0 a0_1 a0_2 a0_3 a0_4 a0_5 a0_6 a0_7 a0_8 a0_9 a0_10 a0_11 a0_12 a0_13 a0_14 a0_15 (wrap64 (IntKind.u32.wrap ((if a3 > a2 then a3 else a2) - if a3 < a2 then a3 else a2)))).bind fun t4 => ((rate_Keeps.f (wrap64 (wrap64 (65536 - wrap64 (Int.tdiv 65536 a0_8)) + (wrap64 a1).tmod (wrap64 (wrap64 (2 * wrap64 (Int.tdiv 65536 a0_8)) + 1)))) 65536 a0_8).bind fun t5 => (if t5 ≠ 0 then some false else (if t2.snd ≠ 0 then some false else (if t3.snd ≠ 0 then some false else (if t4.snd.snd ≠ 0 then some false else (if wrap64 (t3.fst - t2.fst) < t4.fst then some false else (if wrap64 (t3.fst - t2.fst) > t4.snd.fst then some false else ((bounds_Real.f a0_0 a0_1 a0_2 a0_3 a0_4 a0_5 a0_6 a0_7 a0_8 a0_9 a0_10 a0_11 a0_12 a0_13 a0_14 a0_15 (wrap64 (t3.fst - t2.fst))).bind fun t6 => (if wrap64 (t3.fst - t2.fst) > 4294967296 then some t0 else (if t0 = true then (if t6.snd.snd = 0 then (if wrap64 (IntKind.u32.wrap ((if a3 > a2 then a3 else a2) - if a3 < a2 then a3 else a2)) ≥ t6.fst then some (decide (wrap64 (IntKind.u32.wrap ((if a3 > a2 then a3 else a2) - if a3 < a2 then a3 else a2)) ≤ t6.snd.fst)) else some false) else some false) else some false)))))))))))))))))))
set_option maxRecDepth 100000 in
theorem vesperslaw29_BoundsClock.calls (a0_0 : Int) (a0_1 : Int) (a0_2 : Int) (a0_3 : Int) (a0_4 : Int) (a0_5 : Int) (a0_6 : Int) (a0_7 : Int) (a0_8 : Int) (a0_9 : Int) (a0_10 : Int) (a0_11 : Int) (a0_12 : Int) (a0_13 : Int) (a0_14 : Int) (a0_15 : Int) (a1 : Int) (a2 : Int) (a3 : Int) (r : Bool) (w : World) (h : vesperslaw29_BoundsClock.f a0_0 a0_1 a0_2 a0_3 a0_4 a0_5 a0_6 a0_7 a0_8 a0_9 a0_10 a0_11 a0_12 a0_13 a0_14 a0_15 a1 a2 a3 = some r) :
    Calls Try.prog 7 #[.agg #[.int .i64 a0_0, .int .i64 a0_1, .int .i64 a0_2, .int .i64 a0_3, .int .i64 a0_4, .int .i64 a0_5, .int .i64 a0_6, .int .i64 a0_7, .int .i64 a0_8, .int .i64 a0_9, .int .i64 a0_10, .int .i64 a0_11, .int .i64 a0_12, .int .i64 a0_13, .int .i64 a0_14, .int .i64 a0_15], .int .u32 a1, .int .u32 a2, .int .u32 a3] w fun e w' => e = .returned (.bool r) ∧ Below w.heap.size w w' := by
  have ht : (walk Try.prog (ctOf t_vesperslaw29_alive) noL 100000 7 [.agg [.int .i64 (.s a0_0), .int .i64 (.s a0_1), .int .i64 (.s a0_2), .int .i64 (.s a0_3), .int .i64 (.s a0_4), .int .i64 (.s a0_5), .int .i64 (.s a0_6), .int .i64 (.s a0_7), .int .i64 (.s a0_8), .int .i64 (.s a0_9), .int .i64 (.s a0_10), .int .i64 (.s a0_11), .int .i64 (.s a0_12), .int .i64 (.s a0_13), .int .i64 (.s a0_14), .int .i64 (.s a0_15)], .int .u32 (.s a1), .int .u32 (.s a2), .int .u32 (.s a3)] [] 0).opt r_bool.dec = vesperslaw29_BoundsClock.f a0_0 a0_1 a0_2 a0_3 a0_4 a0_5 a0_6 a0_7 a0_8 a0_9 a0_10 a0_11 a0_12 a0_13 a0_14 a0_15 a1 a2 a3 := by kernel_rfl
  exact calls_of named mixed t_vesperslaw29_alive_ok.ct noL_ok ht h (by kernel_rfl) (by kernel_rfl) w fun _ _ _ _ _ hd hx => r_bool.ok hd hx
noncomputable def vesperslaw29_BoundsClock.c : Entry := fun args _ => g_i64x16 args fun a0_0 a0_1 a0_2 a0_3 a0_4 a0_5 a0_6 a0_7 a0_8 a0_9 a0_10 a0_11 a0_12 a0_13 a0_14 a0_15 args => aI .u32 args fun a1 args => aI .u32 args fun a2 args => aI .u32 args fun a3 args => aN args (some { o := vesperslaw29_BoundsClock.f a0_0 a0_1 a0_2 a0_3 a0_4 a0_5 a0_6 a0_7 a0_8 a0_9 a0_10 a0_11 a0_12 a0_13 a0_14 a0_15 a1 a2 a3, enc := r_bool.enc })
theorem vesperslaw29_BoundsClock.ok : EntryOK Try.prog 7 vesperslaw29_BoundsClock.c := by
  intro args H c h r hr ρ hn w xs hx hrel
  unfold vesperslaw29_BoundsClock.c at h
  obtain ⟨a0_0, a0_1, a0_2, a0_3, a0_4, a0_5, a0_6, a0_7, a0_8, a0_9, a0_10, a0_11, a0_12, a0_13, a0_14, a0_15, xs, args, rfl, hx, h⟩ := g_i64x16_ok h hx
  obtain ⟨a1, xs, args, rfl, hx, h⟩ := aI_ok h hx
  obtain ⟨a2, xs, args, rfl, hx, h⟩ := aI_ok h hx
  obtain ⟨a3, xs, args, rfl, hx, h⟩ := aI_ok h hx
  obtain ⟨rfl, h⟩ := aN_ok h hx
  cases h
  refine (vesperslaw29_BoundsClock.calls a0_0 a0_1 a0_2 a0_3 a0_4 a0_5 a0_6 a0_7 a0_8 a0_9 a0_10 a0_11 a0_12 a0_13 a0_14 a0_15 a1 a2 a3 r w hr).mono ?_
  rintro e w' ⟨rfl, hb⟩
  exact ⟨_, rfl, r_bool.enc_rel ρ r, hrel.below hb, Eff.of_below hb⟩
noncomputable def t_vesperslaw29_BoundsClock : List (Nat × Entry) := (7, vesperslaw29_BoundsClock.c) :: t_vesperslaw29_alive
theorem t_vesperslaw29_BoundsClock_ok : TabOK Try.prog t_vesperslaw29_BoundsClock := TabOK.cons vesperslaw29_BoundsClock.ok t_vesperslaw29_alive_ok
/-- The pure statement of vesperslaw29_BoundsClock. -/
def vesperslaw29_BoundsClock.Pure : Prop := ∀ (a0_0 : Int) (a0_1 : Int) (a0_2 : Int) (a0_3 : Int) (a0_4 : Int) (a0_5 : Int) (a0_6 : Int) (a0_7 : Int) (a0_8 : Int) (a0_9 : Int) (a0_10 : Int) (a0_11 : Int) (a0_12 : Int) (a0_13 : Int) (a0_14 : Int) (a0_15 : Int) (a1 : Int) (a2 : Int) (a3 : Int), (Lit.int .i64 a0_0).wf = true → (Lit.int .i64 a0_1).wf = true → (Lit.int .i64 a0_2).wf = true → (Lit.int .i64 a0_3).wf = true → (Lit.int .i64 a0_4).wf = true → (Lit.int .i64 a0_5).wf = true → (Lit.int .i64 a0_6).wf = true → (Lit.int .i64 a0_7).wf = true → (Lit.int .i64 a0_8).wf = true → (Lit.int .i64 a0_9).wf = true → (Lit.int .i64 a0_10).wf = true → (Lit.int .i64 a0_11).wf = true → (Lit.int .i64 a0_12).wf = true → (Lit.int .i64 a0_13).wf = true → (Lit.int .i64 a0_14).wf = true → (Lit.int .i64 a0_15).wf = true → (Lit.int .u32 a1).wf = true → (Lit.int .u32 a2).wf = true → (Lit.int .u32 a3).wf = true → vesperslaw29_BoundsClock.f a0_0 a0_1 a0_2 a0_3 a0_4 a0_5 a0_6 a0_7 a0_8 a0_9 a0_10 a0_11 a0_12 a0_13 a0_14 a0_15 a1 a2 a3 = some true
theorem vesperslaw29_BoundsClock.walk (P : vesperslaw29_BoundsClock.Pure) (a0_0 : Int) (a0_1 : Int) (a0_2 : Int) (a0_3 : Int) (a0_4 : Int) (a0_5 : Int) (a0_6 : Int) (a0_7 : Int) (a0_8 : Int) (a0_9 : Int) (a0_10 : Int) (a0_11 : Int) (a0_12 : Int) (a0_13 : Int) (a0_14 : Int) (a0_15 : Int) (a1 : Int) (a2 : Int) (a3 : Int) (w : World) (w0_0 : (Lit.int .i64 a0_0).wf = true) (w0_1 : (Lit.int .i64 a0_1).wf = true) (w0_2 : (Lit.int .i64 a0_2).wf = true) (w0_3 : (Lit.int .i64 a0_3).wf = true) (w0_4 : (Lit.int .i64 a0_4).wf = true) (w0_5 : (Lit.int .i64 a0_5).wf = true) (w0_6 : (Lit.int .i64 a0_6).wf = true) (w0_7 : (Lit.int .i64 a0_7).wf = true) (w0_8 : (Lit.int .i64 a0_8).wf = true) (w0_9 : (Lit.int .i64 a0_9).wf = true) (w0_10 : (Lit.int .i64 a0_10).wf = true) (w0_11 : (Lit.int .i64 a0_11).wf = true) (w0_12 : (Lit.int .i64 a0_12).wf = true) (w0_13 : (Lit.int .i64 a0_13).wf = true) (w0_14 : (Lit.int .i64 a0_14).wf = true) (w0_15 : (Lit.int .i64 a0_15).wf = true) (w1 : (Lit.int .u32 a1).wf = true) (w2 : (Lit.int .u32 a2).wf = true) (w3 : (Lit.int .u32 a3).wf = true) :
    Calls Try.prog 7 #[.agg #[.int .i64 a0_0, .int .i64 a0_1, .int .i64 a0_2, .int .i64 a0_3, .int .i64 a0_4, .int .i64 a0_5, .int .i64 a0_6, .int .i64 a0_7, .int .i64 a0_8, .int .i64 a0_9, .int .i64 a0_10, .int .i64 a0_11, .int .i64 a0_12, .int .i64 a0_13, .int .i64 a0_14, .int .i64 a0_15], .int .u32 a1, .int .u32 a2, .int .u32 a3] w fun e w' => e = .returned (.bool true) ∧ Below w.heap.size w w' :=
  vesperslaw29_BoundsClock.calls a0_0 a0_1 a0_2 a0_3 a0_4 a0_5 a0_6 a0_7 a0_8 a0_9 a0_10 a0_11 a0_12 a0_13 a0_14 a0_15 a1 a2 a3 true w (P a0_0 a0_1 a0_2 a0_3 a0_4 a0_5 a0_6 a0_7 a0_8 a0_9 a0_10 a0_11 a0_12 a0_13 a0_14 a0_15 a1 a2 a3 w0_0 w0_1 w0_2 w0_3 w0_4 w0_5 w0_6 w0_7 w0_8 w0_9 w0_10 w0_11 w0_12 w0_13 w0_14 w0_15 w1 w2 w3)
noncomputable abbrev tab_S5 : List (Nat × Entry) := t_vesperslaw29_BoundsClock
theorem tab_S5_ok : TabOK Try.prog tab_S5 := t_vesperslaw29_BoundsClock_ok
end Go.Proofs.Ytgoilclgehipmaa.S
