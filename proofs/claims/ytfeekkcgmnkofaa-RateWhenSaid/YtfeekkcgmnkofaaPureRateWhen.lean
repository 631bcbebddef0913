/- When tells a time at which the clock reads so much, or more, and at the one ahead of it (if it is on then) it does not; what a clock reads at a time it reads from When on; any clock, number, and time. -/
import Derived.Test.YtfeekkcgmnkofaaXRateWhenx2
import Derived.OpenShut
namespace Go.Proofs.Ytfeekkcgmnkofaa.Pure
open Go.RowKit Go.Proofs.Ytfeekkcgmnkofaa.XRateWhen Go.Proofs.YtfeekkcgmnkofaaW.PrintWords Go.Proofs.YtfeekkcgmnkofaaW.PrintLast Go.Proofs.YtfeekkcgmnkofaaW.PrintMore
set_option linter.unusedVariables false
set_option linter.unusedSimpArgs false
namespace LRateWhen
theorem wr (x : Int) (h : -9223372036854775808 ≤ x ∧ x ≤ 9223372036854775807) : wrap64 x = x := by unfold wrap64; omega
theorem wf64 {x : Int} (h : (Lit.int .i64 x).wf = true) : -9223372036854775808 ≤ x ∧ x ≤ 9223372036854775807 := bounds_i64 h
/-- A clock that may be. -/
def CK (n d o a : Int) : Prop := 1 ≤ d ∧ d ≤ 65536 ∧ 1 ≤ n ∧ n ≤ 2 * d ∧ 0 ≤ o ∧ o ≤ 4294967296 ∧ -4294967296 ≤ a ∧ a ≤ 4294967296
instance (n d o a : Int) : Decidable (CK n d o a) := by unfold CK; infer_instance
theorem in_eq (x l m : Int) : rate_Check_1.f x l m = some (decide (l ≤ x ∧ x ≤ m)) := by
  unfold rate_Check_1.f
  by_cases h : x ≥ l
  · rw [if_pos h]; by_cases g : x ≤ m <;> simp [g, h]
  · rw [if_neg h]; simp; omega
theorem check_eq (n d o a : Int) : rate_Check.f n d o a = some (if CK n d o a then 0 else 60) := by
  unfold rate_Check.f
  simp only [in_eq, Option.bind_some]
  by_cases h1 : 1 ≤ d ∧ d ≤ 65536
  · rw [wr (2 * d) (by omega), decide_eq_true h1, if_pos rfl]
    by_cases h2 : 1 ≤ n ∧ n ≤ 2 * d
    · rw [decide_eq_true h2, if_pos rfl]
      by_cases h3 : 0 ≤ o ∧ o ≤ 4294967296
      · rw [decide_eq_true h3, if_pos rfl]
        by_cases h4 : -4294967296 ≤ a ∧ a ≤ 4294967296
        · rw [decide_eq_true h4, if_pos rfl, if_pos (by unfold CK; omega)]
        · rw [decide_eq_false h4, if_neg (by decide), if_neg (by unfold CK; omega)]
      · rw [decide_eq_false h3, if_neg (by decide), if_neg (by unfold CK; omega)]
    · rw [decide_eq_false h2, if_neg (by decide), if_neg (by unfold CK; omega)]
  · rw [decide_eq_false h1, if_neg (by decide), if_neg (by unfold CK; omega)]
theorem mul_bd {x y B C : Int} (hx : 0 ≤ x) (hx' : x ≤ B) (hy : 0 ≤ y) (hy' : y ≤ C) : 0 ≤ x * y ∧ x * y ≤ B * C :=
  ⟨Int.mul_nonneg hx hy, Int.le_trans (Int.mul_le_mul_of_nonneg_right hx' hy) (Int.mul_le_mul_of_nonneg_left hy' (by omega))⟩
theorem tdiv_eq {x y : Int} (hx : 0 ≤ x) : Int.tdiv x y = x / y := Int.tdiv_eq_ediv_of_nonneg hx
/-- How far a clock has gone. -/
def gone (n d u : Int) : Int := n * u / d
theorem gone_bd {n d u : Int} (hd : 1 ≤ d) (hn : 1 ≤ n) (hn' : n ≤ 2 * d) (hu : 0 ≤ u) : 0 ≤ gone n d u ∧ gone n d u ≤ 2 * u := by
  unfold gone
  constructor
  · exact Int.ediv_nonneg (Int.mul_nonneg (by omega) hu) (by omega)
  · apply Int.ediv_le_of_le_mul (by omega)
    have := Int.mul_le_mul_of_nonneg_right hn' hu
    rw [show 2 * u * d = 2 * d * u from by rw [Int.mul_assoc, Int.mul_comm u d, ← Int.mul_assoc]]
    exact this
theorem reads_eq (n d o a t : Int) (ht : -9223372036854775808 ≤ t ∧ t ≤ 9223372036854775807) : rate_Reads.f n d o a t = some (if CK n d o a ∧ o ≤ t ∧ t ≤ 4294967296 then (gone n d (t - o) + a, 0) else (0, 60)) := by
  unfold rate_Reads.f
  rw [check_eq]
  simp only [Option.bind_some]
  by_cases h : CK n d o a
  · have hc := h
    unfold CK at hc
    rw [if_pos h, if_pos rfl]
    by_cases h1 : t < o
    · rw [if_pos h1, if_neg (by omega)]
    · by_cases h2 : t > 4294967296
      · rw [if_neg h1, if_pos h2, if_neg (by omega)]
      · rw [if_neg h1, if_neg h2, if_pos ⟨h, by omega, by omega⟩, wr (t - o) (by omega)]
        unfold rate_clock_gone.f
        have b := mul_bd (x := n) (y := t - o) (B := 131072) (C := 4294967296) (by omega) (by omega) (by omega) (by omega)
        have g := gone_bd (n := n) (d := d) (u := t - o) (by omega) (by omega) (by omega) (by omega)
        unfold gone at g ⊢
        rw [if_neg (by omega), wr (n * (t - o)) (by omega), tdiv_eq b.1, wr _ (by omega)]
        simp only [Option.bind_some]
        rw [wr _ (by omega)]
  · rw [if_neg h, if_neg (by decide), if_neg (fun x => h x.1)]
theorem alive_eq : vesperslaw06_alive.f = some true := by decide +kernel
/-- In how many ticks a clock goes so far, at least. -/
def ticks (n d y : Int) : Int := (y * d + n - 1) / n
theorem ticks_spec {n d y : Int} (hd : 1 ≤ d) (hn : 1 ≤ n) (hy : 1 ≤ y) : y * d ≤ n * ticks n d y ∧ n * (ticks n d y - 1) < y * d ∧ 1 ≤ ticks n d y := by
  unfold ticks
  have hyd : 1 ≤ y * d := by
    have := Int.mul_le_mul_of_nonneg_right hy (show 0 ≤ d by omega)
    omega
  generalize y * d = z at *
  have e1 := Int.mul_ediv_add_emod (z + n - 1) n
  have r1 := Int.emod_nonneg (z + n - 1) (show n ≠ 0 by omega)
  have s1 := Int.emod_lt_of_pos (z + n - 1) (show 0 < n by omega)
  have p1 : 1 ≤ (z + n - 1) / n := by
    rw [Int.le_ediv_iff_mul_le (by omega)]
    omega
  generalize (z + n - 1) / n = q at *
  have e2 : n * (q - 1) = n * q - n := by rw [Int.mul_sub, Int.mul_one]
  refine ⟨by omega, by rw [e2]; omega, p1⟩
theorem gone_ge {n d u y : Int} (hd : 1 ≤ d) : y ≤ gone n d u ↔ y * d ≤ n * u := by
  unfold gone
  rw [Int.le_ediv_iff_mul_le (by omega)]
theorem gone_mono {n d u v : Int} (hd : 1 ≤ d) (hn : 1 ≤ n) (h : u ≤ v) : gone n d u ≤ gone n d v := by
  unfold gone
  exact Int.ediv_le_ediv (by omega) (Int.mul_le_mul_of_nonneg_left h (by omega))
theorem ticks_le {n d u y : Int} (hd : 1 ≤ d) (hn : 1 ≤ n) (hy : 1 ≤ y) (h : y ≤ gone n d u) : ticks n d y ≤ u := by
  rw [gone_ge hd] at h
  obtain ⟨_, h2, _⟩ := ticks_spec hd hn hy
  have : n * (ticks n d y - 1) < n * u := by omega
  have := Int.lt_of_mul_lt_mul_left this (by omega)
  omega
theorem gone_ticks {n d y : Int} (hd : 1 ≤ d) (hn : 1 ≤ n) (hy : 1 ≤ y) : y ≤ gone n d (ticks n d y) ∧ gone n d (ticks n d y - 1) < y := by
  obtain ⟨h1, h2, _⟩ := ticks_spec hd hn hy
  refine ⟨(gone_ge hd).2 h1, ?_⟩
  by_cases h : y ≤ gone n d (ticks n d y - 1)
  · rw [gone_ge hd] at h; omega
  · omega
theorem when_eq (n d o a x : Int) (hx : -9223372036854775808 ≤ x ∧ x ≤ 9223372036854775807) : rate_When.f n d o a x =
    some (if CK n d o a then if x > gone n d (4294967296 - o) + a then (0, 61) else if x ≤ a then (o, 0) else (o + ticks n d (x - a), 0) else (0, 60)) := by
  unfold rate_When.f
  rw [check_eq, reads_eq _ _ _ _ _ (by omega)]
  simp only [Option.bind_some]
  by_cases hc : CK n d o a
  · have h := hc
    unfold CK at h
    rw [if_pos hc, if_pos rfl, if_pos (show CK n d o a ∧ o ≤ 4294967296 ∧ (4294967296 : Int) ≤ 4294967296 from ⟨hc, by omega, by omega⟩), if_pos hc]
    simp only
    by_cases h1 : x > gone n d (4294967296 - o) + a
    · rw [if_pos h1, if_pos h1]
    · rw [if_neg h1, if_neg h1]
      by_cases h2 : x ≤ a
      · rw [if_pos h2, if_pos h2]
      · rw [if_neg h2, if_neg h2]
        have g := gone_bd (n := n) (d := d) (u := 4294967296 - o) (by omega) (by omega) (by omega) (by omega)
        have t1 := ticks_le (n := n) (d := d) (u := 4294967296 - o) (y := x - a) (by omega) (by omega) (by omega) (by omega)
        have t2 := ticks_spec (n := n) (d := d) (y := x - a) (by omega) (by omega) (by omega)
        have b := mul_bd (x := x - a) (y := d) (B := 8589934592) (C := 65536) (by omega) (by omega) (by omega) (by omega)
        rw [wr (x - a) (by omega)]
        unfold rate_clock_ticks.f
        unfold ticks at t1 t2
        rw [if_neg (by omega), wr ((x - a) * d) (by omega), wr ((x - a) * d + n) (by omega), wr ((x - a) * d + n - 1) (by omega), tdiv_eq (by omega), wr (((x - a) * d + n - 1) / n) (by omega)]
        simp only [Option.bind_some]
        unfold ticks
        rw [wr _ (by omega)]
  · rw [if_neg hc, if_neg (by decide), if_neg hc]
theorem j0_eq (k : Nat) (n d o a t e : Int) (he : e = 0 ∨ e = 60 ∨ e = 61) (ht : -9223372036854775808 ≤ t ∧ t ≤ 9223372036854775807) : vesperslaw06_RateWhen.j0 (k + 1) t true e n d o a = some true := by
  simp only [vesperslaw06_RateWhen.j0]
  rw [reads_eq _ _ _ _ _ ht]
  simp only [Option.bind_some]
  by_cases h1 : CK n d o a ∧ o ≤ t ∧ t ≤ 4294967296
  · have hc := h1.1
    unfold CK at hc
    have g1 := gone_bd (n := n) (d := d) (u := t - o) (by omega) (by omega) (by omega) (by omega)
    have m1 := gone_mono (n := n) (d := d) (u := t - o) (v := 4294967296 - o) (by omega) (by omega) (by omega)
    rw [if_pos h1, if_pos rfl]
    simp only
    rw [when_eq _ _ _ _ _ (by omega), if_pos h1.1, if_neg (by omega)]
    by_cases h2 : gone n d (t - o) + a ≤ a
    · rw [if_pos h2]
      simp only [Option.bind_some]
      rw [reads_eq _ _ _ _ _ (by omega), if_pos ⟨h1.1, by omega, by omega⟩]
      simp only [Option.bind_some, if_true]
      have g0 : gone n d (o - o) = 0 := by unfold gone; simp
      rw [if_pos h1.2.1, g0]
      have : gone n d (t - o) = 0 := by omega
      rw [this]
      simp
    · rw [if_neg h2]
      simp only [Option.bind_some]
      rw [show gone n d (t - o) + a - a = gone n d (t - o) from by omega]
      have t1 := ticks_le (n := n) (d := d) (u := t - o) (y := gone n d (t - o)) (by omega) (by omega) (by omega) (by omega)
      have t2 := ticks_spec (n := n) (d := d) (y := gone n d (t - o)) (by omega) (by omega) (by omega)
      have t3 := gone_ticks (n := n) (d := d) (y := gone n d (t - o)) (by omega) (by omega) (by omega)
      have m2 := gone_mono (n := n) (d := d) (by omega) (by omega) t1
      rw [reads_eq _ _ _ _ _ (by omega), if_pos ⟨h1.1, by omega, by omega⟩]
      simp only [Option.bind_some, if_true]
      rw [if_pos (by omega), show o + ticks n d (gone n d (t - o)) - o = ticks n d (gone n d (t - o)) from by omega]
      have : gone n d (ticks n d (gone n d (t - o))) = gone n d (t - o) := by omega
      rw [this]
      simp
  · rw [if_neg h1]
    simp only
    rw [if_neg (by decide)]
    rcases he with rfl | rfl | rfl <;> simp
theorem proved : vesperslaw06_RateWhen.Pure := by
  intro n d o a x t _ _ _ _ hx ht
  have hx := wf64 hx
  have ht := wf64 ht
  refine ⟨1, ?_⟩
  unfold vesperslaw06_RateWhen.f
  rw [alive_eq, when_eq _ _ _ _ _ hx]
  simp only [Option.bind_some]
  by_cases hc : CK n d o a
  · have h := hc
    unfold CK at h
    have g := gone_bd (n := n) (d := d) (u := 4294967296 - o) (by omega) (by omega) (by omega) (by omega)
    rw [if_pos hc]
    by_cases h1 : x > gone n d (4294967296 - o) + a
    · rw [if_pos h1]
      simp only
      rw [if_neg (by decide)]
      exact j0_eq 0 n d o a t _ (by omega) ht
    · rw [if_neg h1]
      by_cases h2 : x ≤ a
      · rw [if_pos h2]
        simp only [if_true]
        rw [reads_eq _ _ _ _ _ (by omega), if_pos ⟨hc, by omega, by omega⟩, wr (o - 1) (by omega), reads_eq _ _ _ _ _ (by omega)]
        simp only [Option.bind_some, if_true]
        have g0 : gone n d (o - o) = 0 := by unfold gone; simp
        rw [g0, if_neg (by omega), if_neg (by omega), if_neg (by omega)]
        exact j0_eq 0 n d o a t _ (by omega) ht
      · rw [if_neg h2]
        simp only [if_true]
        have t1 := ticks_le (n := n) (d := d) (u := 4294967296 - o) (y := x - a) (by omega) (by omega) (by omega) (by omega)
        have t2 := ticks_spec (n := n) (d := d) (y := x - a) (by omega) (by omega) (by omega)
        have t3 := gone_ticks (n := n) (d := d) (y := x - a) (by omega) (by omega) (by omega)
        rw [reads_eq _ _ _ _ _ (by omega), if_pos ⟨hc, by omega, by omega⟩, wr (_ - 1) (by omega), reads_eq _ _ _ _ _ (by omega), if_pos ⟨hc, by omega, by omega⟩]
        simp only [Option.bind_some, if_true]
        rw [show o + ticks n d (x - a) - o = ticks n d (x - a) from by omega, show o + ticks n d (x - a) - 1 - o = ticks n d (x - a) - 1 from by omega]
        rw [if_neg (by omega), if_neg (by omega), if_pos (by omega), if_neg (by omega)]
        exact j0_eq 0 n d o a t _ (by omega) ht
  · rw [if_neg hc]
    simp only
    rw [if_neg (by decide)]
    exact j0_eq 0 n d o a t _ (by omega) ht
end LRateWhen
end Go.Proofs.Ytfeekkcgmnkofaa.Pure
