/- Whether any clock may be, and any rate keeps any bound, what the clock reads at any time, when it reads so much, and what it is when it is set on, or restarted, or the error, are the document's. -/
import Derived.Test.YtfeekkcgmnkofaaXRateClocksx6
import Derived.OpenShut
namespace Go.Proofs.Ytfeekkcgmnkofaa.Pure
open Go.RowKit Go.Proofs.Ytfeekkcgmnkofaa.XRateClocks Go.Proofs.YtfeekkcgmnkofaaW.PrintWords Go.Proofs.YtfeekkcgmnkofaaW.PrintLast Go.Proofs.YtfeekkcgmnkofaaW.PrintMore
set_option linter.unusedVariables false
set_option linter.unusedSimpArgs false
namespace LRateClocks
theorem wr (x : Int) (h : -9223372036854775808 ≤ x ∧ x ≤ 9223372036854775807) : wrap64 x = x := by unfold wrap64; omega
theorem wf64 {x : Int} (h : (Lit.int .i64 x).wf = true) : -9223372036854775808 ≤ x ∧ x ≤ 9223372036854775807 := bounds_i64 h
/-- A clock that may be. -/
def CK (n d o a : Int) : Prop := 1 ≤ d ∧ d ≤ 65536 ∧ 1 ≤ n ∧ n ≤ 2 * d ∧ 0 ≤ o ∧ o ≤ 4294967296 ∧ -4294967296 ≤ a ∧ a ≤ 4294967296
instance (n d o a : Int) : Decidable (CK n d o a) := by unfold CK; infer_instance
theorem in_eq (x l m : Int) : rate_Check_1.f x l m = some (decide (l ≤ x ∧ x ≤ m)) := by
  unfold rate_Check_1.f
  by_cases h : x ≥ l
  · rw [if_pos h]; by_cases g : x ≤ m <;> simp [g, h]
  · rw [if_neg h]; simp; omega
theorem check_eq (n d o a : Int) : rate_Check.f n d o a = some (if CK n d o a then 0 else 60) := by
  unfold rate_Check.f
  simp only [in_eq, Option.bind_some]
  by_cases h1 : 1 ≤ d ∧ d ≤ 65536
  · rw [wr (2 * d) (by omega), decide_eq_true h1, if_pos rfl]
    by_cases h2 : 1 ≤ n ∧ n ≤ 2 * d
    · rw [decide_eq_true h2, if_pos rfl]
      by_cases h3 : 0 ≤ o ∧ o ≤ 4294967296
      · rw [decide_eq_true h3, if_pos rfl]
        by_cases h4 : -4294967296 ≤ a ∧ a ≤ 4294967296
        · rw [decide_eq_true h4, if_pos rfl, if_pos (by unfold CK; omega)]
        · rw [decide_eq_false h4, if_neg (by decide), if_neg (by unfold CK; omega)]
      · rw [decide_eq_false h3, if_neg (by decide), if_neg (by unfold CK; omega)]
    · rw [decide_eq_false h2, if_neg (by decide), if_neg (by unfold CK; omega)]
  · rw [decide_eq_false h1, if_neg (by decide), if_neg (by unfold CK; omega)]
theorem mul_bd {x y B C : Int} (hx : 0 ≤ x) (hx' : x ≤ B) (hy : 0 ≤ y) (hy' : y ≤ C) : 0 ≤ x * y ∧ x * y ≤ B * C :=
  ⟨Int.mul_nonneg hx hy, Int.le_trans (Int.mul_le_mul_of_nonneg_right hx' hy) (Int.mul_le_mul_of_nonneg_left hy' (by omega))⟩
theorem tdiv_eq {x y : Int} (hx : 0 ≤ x) : Int.tdiv x y = x / y := Int.tdiv_eq_ediv_of_nonneg hx
/-- How far a clock has gone. -/
def gone (n d u : Int) : Int := n * u / d
theorem gone_bd {n d u : Int} (hd : 1 ≤ d) (hn : 1 ≤ n) (hn' : n ≤ 2 * d) (hu : 0 ≤ u) : 0 ≤ gone n d u ∧ gone n d u ≤ 2 * u := by
  unfold gone
  constructor
  · exact Int.ediv_nonneg (Int.mul_nonneg (by omega) hu) (by omega)
  · apply Int.ediv_le_of_le_mul (by omega)
    have := Int.mul_le_mul_of_nonneg_right hn' hu
    rw [show 2 * u * d = 2 * d * u from by rw [Int.mul_assoc, Int.mul_comm u d, ← Int.mul_assoc]]
    exact this
theorem reads_eq (n d o a t : Int) (ht : -9223372036854775808 ≤ t ∧ t ≤ 9223372036854775807) : rate_Reads.f n d o a t = some (if CK n d o a ∧ o ≤ t ∧ t ≤ 4294967296 then (gone n d (t - o) + a, 0) else (0, 60)) := by
  unfold rate_Reads.f
  rw [check_eq]
  simp only [Option.bind_some]
  by_cases h : CK n d o a
  · have hc := h
    unfold CK at hc
    rw [if_pos h, if_pos rfl]
    by_cases h1 : t < o
    · rw [if_pos h1, if_neg (by omega)]
    · by_cases h2 : t > 4294967296
      · rw [if_neg h1, if_pos h2, if_neg (by omega)]
      · rw [if_neg h1, if_neg h2, if_pos ⟨h, by omega, by omega⟩, wr (t - o) (by omega)]
        unfold rate_clock_gone.f
        have b := mul_bd (x := n) (y := t - o) (B := 131072) (C := 4294967296) (by omega) (by omega) (by omega) (by omega)
        have g := gone_bd (n := n) (d := d) (u := t - o) (by omega) (by omega) (by omega) (by omega)
        unfold gone at g ⊢
        rw [if_neg (by omega), wr (n * (t - o)) (by omega), tdiv_eq b.1, wr _ (by omega)]
        simp only [Option.bind_some]
        rw [wr _ (by omega)]
  · rw [if_neg h, if_neg (by decide), if_neg (fun x => h x.1)]
/-- In how many ticks a clock goes so far, at least. -/
def ticks (n d y : Int) : Int := (y * d + n - 1) / n
theorem ticks_spec {n d y : Int} (hd : 1 ≤ d) (hn : 1 ≤ n) (hy : 1 ≤ y) : y * d ≤ n * ticks n d y ∧ n * (ticks n d y - 1) < y * d ∧ 1 ≤ ticks n d y := by
  unfold ticks
  have hyd : 1 ≤ y * d := by
    have := Int.mul_le_mul_of_nonneg_right hy (show 0 ≤ d by omega)
    omega
  generalize y * d = z at *
  have e1 := Int.mul_ediv_add_emod (z + n - 1) n
  have r1 := Int.emod_nonneg (z + n - 1) (show n ≠ 0 by omega)
  have s1 := Int.emod_lt_of_pos (z + n - 1) (show 0 < n by omega)
  have p1 : 1 ≤ (z + n - 1) / n := by
    rw [Int.le_ediv_iff_mul_le (by omega)]
    omega
  generalize (z + n - 1) / n = q at *
  have e2 : n * (q - 1) = n * q - n := by rw [Int.mul_sub, Int.mul_one]
  refine ⟨by omega, by rw [e2]; omega, p1⟩
theorem gone_ge {n d u y : Int} (hd : 1 ≤ d) : y ≤ gone n d u ↔ y * d ≤ n * u := by
  unfold gone
  rw [Int.le_ediv_iff_mul_le (by omega)]
theorem gone_mono {n d u v : Int} (hd : 1 ≤ d) (hn : 1 ≤ n) (h : u ≤ v) : gone n d u ≤ gone n d v := by
  unfold gone
  exact Int.ediv_le_ediv (by omega) (Int.mul_le_mul_of_nonneg_left h (by omega))
theorem ticks_le {n d u y : Int} (hd : 1 ≤ d) (hn : 1 ≤ n) (hy : 1 ≤ y) (h : y ≤ gone n d u) : ticks n d y ≤ u := by
  rw [gone_ge hd] at h
  obtain ⟨_, h2, _⟩ := ticks_spec hd hn hy
  have : n * (ticks n d y - 1) < n * u := by omega
  have := Int.lt_of_mul_lt_mul_left this (by omega)
  omega
theorem gone_ticks {n d y : Int} (hd : 1 ≤ d) (hn : 1 ≤ n) (hy : 1 ≤ y) : y ≤ gone n d (ticks n d y) ∧ gone n d (ticks n d y - 1) < y := by
  obtain ⟨h1, h2, _⟩ := ticks_spec hd hn hy
  refine ⟨(gone_ge hd).2 h1, ?_⟩
  by_cases h : y ≤ gone n d (ticks n d y - 1)
  · rw [gone_ge hd] at h; omega
  · omega
theorem when_eq (n d o a x : Int) (hx : -9223372036854775808 ≤ x ∧ x ≤ 9223372036854775807) : rate_When.f n d o a x =
    some (if CK n d o a then if x > gone n d (4294967296 - o) + a then (0, 61) else if x ≤ a then (o, 0) else (o + ticks n d (x - a), 0) else (0, 60)) := by
  unfold rate_When.f
  rw [check_eq, reads_eq _ _ _ _ _ (by omega)]
  simp only [Option.bind_some]
  by_cases hc : CK n d o a
  · have h := hc
    unfold CK at h
    rw [if_pos hc, if_pos rfl, if_pos (show CK n d o a ∧ o ≤ 4294967296 ∧ (4294967296 : Int) ≤ 4294967296 from ⟨hc, by omega, by omega⟩), if_pos hc]
    simp only
    by_cases h1 : x > gone n d (4294967296 - o) + a
    · rw [if_pos h1, if_pos h1]
    · rw [if_neg h1, if_neg h1]
      by_cases h2 : x ≤ a
      · rw [if_pos h2, if_pos h2]
      · rw [if_neg h2, if_neg h2]
        have g := gone_bd (n := n) (d := d) (u := 4294967296 - o) (by omega) (by omega) (by omega) (by omega)
        have t1 := ticks_le (n := n) (d := d) (u := 4294967296 - o) (y := x - a) (by omega) (by omega) (by omega) (by omega)
        have t2 := ticks_spec (n := n) (d := d) (y := x - a) (by omega) (by omega) (by omega)
        have b := mul_bd (x := x - a) (y := d) (B := 8589934592) (C := 65536) (by omega) (by omega) (by omega) (by omega)
        rw [wr (x - a) (by omega)]
        unfold rate_clock_ticks.f
        unfold ticks at t1 t2
        rw [if_neg (by omega), wr ((x - a) * d) (by omega), wr ((x - a) * d + n) (by omega), wr ((x - a) * d + n - 1) (by omega), tdiv_eq (by omega), wr (((x - a) * d + n - 1) / n) (by omega)]
        simp only [Option.bind_some]
        unfold ticks
        rw [wr _ (by omega)]
  · rw [if_neg hc, if_neg (by decide), if_neg hc]
theorem mx_eq (x y : Int) : mx x y = if x ≤ y then y else x := by unfold mx; split <;> split <;> omega
theorem keeps_eq (k : Nat) (n d rho : Int) (h : -9223372036854775808 ≤ rho ∧ rho ≤ 9223372036854775807) :
    rate_Keeps.f (k + 1) n d rho = some (if CK n d 0 0 ∧ 4 ≤ rho ∧ rho ≤ 1048576 ∧ (n - d) * rho ≤ d ∧ (d - n) * rho ≤ d then 0 else 60) := by
  unfold rate_Keeps.f
  rw [check_eq]
  simp only [Option.bind_some, rate_Keeps.j0]
  by_cases hc : CK n d 0 0
  · rw [if_pos hc, if_pos rfl]
    by_cases h1 : rho < 4
    · rw [if_pos h1, if_true, if_neg (by omega)]
    · rw [if_neg h1]
      by_cases h2 : rho > 1048576
      · rw [decide_eq_true h2, if_pos rfl, if_neg (by omega)]
      · rw [decide_eq_false h2, if_neg (by decide)]
        unfold CK at hc
        rw [wr (n - d) (by omega), wr (-(n - d)) (by omega), mx_eq]
        by_cases h3 : n = d
        · subst h3
          rw [if_neg (by simp), if_pos ⟨by unfold CK; omega, by omega, by omega, by rw [Int.sub_self]; omega, by rw [Int.sub_self]; omega⟩]
        · rw [if_pos (by simp [h3])]
          by_cases h4 : n - d ≤ -(n - d)
          · rw [if_pos h4, show -(n - d) = d - n from by omega]
            have b := mul_bd (x := rho) (y := d - n) (B := 1048576) (C := 65536) (by omega) (by omega) (by omega) (by omega)
            have b2 : (n - d) * rho ≤ 0 := by have := Int.mul_le_mul_of_nonneg_right (show n - d ≤ 0 by omega) (show 0 ≤ rho by omega); omega
            rw [wr _ (by omega), Int.mul_comm rho]
            by_cases h5 : (d - n) * rho ≤ d
            · rw [if_neg (by omega), if_pos ⟨by unfold CK; omega, by omega, by omega, by omega, h5⟩]
            · rw [if_pos (by omega), if_neg (fun x => h5 x.2.2.2.2)]
          · rw [if_neg h4]
            have b := mul_bd (x := rho) (y := n - d) (B := 1048576) (C := 65536) (by omega) (by omega) (by omega) (by omega)
            have b2 : (d - n) * rho ≤ 0 := by have := Int.mul_le_mul_of_nonneg_right (show d - n ≤ 0 by omega) (show 0 ≤ rho by omega); omega
            rw [wr _ (by omega), Int.mul_comm rho]
            by_cases h5 : (n - d) * rho ≤ d
            · rw [if_neg (by omega), if_pos ⟨by unfold CK; omega, by omega, by omega, h5, by omega⟩]
            · rw [if_pos (by omega), if_neg (fun x => h5 x.2.2.2.1)]
  · rw [if_neg hc, if_neg (by decide), if_true, if_neg (fun x => hc x.1)]
theorem set_eq (k : Nat) (n d o a by_ : Int) (hb : -9223372036854775808 ≤ by_ ∧ by_ ≤ 9223372036854775807) : rate_Set.f (k + 1) n d o a by_ =
    some (if CK n d o a ∧ -8589934592 ≤ by_ ∧ by_ ≤ 8589934592 ∧ -4294967296 ≤ a + by_ ∧ a + by_ ≤ 4294967296 then (n, d, o, a + by_, 0) else (0, 0, 0, 0, 60)) := by
  unfold rate_Set.f
  simp only [check_eq, Option.bind_some, rate_Set.j0]
  by_cases hc : CK n d o a
  · have h := hc
    unfold CK at h
    rw [if_pos hc, if_pos rfl]
    by_cases h1 : by_ < -8589934592
    · rw [if_pos h1, if_true, if_neg (by omega)]
    · rw [if_neg h1]
      by_cases h2 : by_ > 8589934592
      · rw [decide_eq_true h2, if_pos rfl, if_neg (by omega)]
      · rw [decide_eq_false h2, if_neg (by decide), wr (a + by_) (by omega)]
        by_cases h3 : -4294967296 ≤ a + by_ ∧ a + by_ ≤ 4294967296
        · have hc' : CK n d o (a + by_) := by unfold CK; omega
          rw [if_pos hc', if_pos rfl, if_pos ⟨hc, by omega, by omega, h3.1, h3.2⟩]
        · have hc' : ¬ CK n d o (a + by_) := by unfold CK; omega
          rw [if_neg hc', if_neg (by decide), if_neg (by omega)]
  · rw [if_neg hc, if_neg (by decide), if_true, if_neg (fun x => hc x.1)]
theorem restart_eq (n d o a t : Int) : rate_Restart.f n d o a t = some (if CK n d o a ∧ 0 ≤ t ∧ t ≤ 4294967296 then (n, d, t, 0, 0) else (0, 0, 0, 0, 60)) := by
  unfold rate_Restart.f
  simp only [check_eq, Option.bind_some]
  by_cases hc : CK n d o a
  · rw [if_pos hc, if_pos rfl]
    by_cases h1 : t < 0
    · rw [if_pos h1, if_neg (by omega)]
    · rw [if_neg h1]
      by_cases h2 : t > 4294967296
      · rw [if_pos h2, if_neg (by omega)]
      · rw [if_neg h2, if_pos ⟨hc, by omega, by omega⟩]
  · rw [if_neg hc, if_neg (by decide), if_neg (fun x => hc x.1)]
theorem rcheck_eq (k : Nat) (n d o a : Int) : vespersref06_Check.f (k + 1) n d o a = some (if CK n d o a then 0 else 60) := by
  unfold vespersref06_Check.f
  simp only [vespersref06_Check.j0, if_true]
  by_cases h1 : d < 1
  · rw [if_pos h1, if_neg (by unfold CK; omega)]
  · by_cases h2 : d > 65536
    · rw [if_neg h1, if_pos h2, if_neg (by unfold CK; omega)]
    · by_cases h3 : n < 1
      · rw [if_neg h1, if_neg h2, if_pos h3, if_neg (by unfold CK; omega)]
      · rw [if_neg h1, if_neg h2, if_neg h3, wr (2 * d) (by omega)]
        by_cases h4 : n > 2 * d
        · rw [decide_eq_true h4, if_pos rfl, if_neg (by unfold CK; omega)]
        · rw [decide_eq_false h4, if_neg (by decide)]
          by_cases h5 : o < 0
          · rw [if_pos h5, if_neg (by unfold CK; omega)]
          · by_cases h6 : o > 4294967296
            · rw [if_neg h5, if_pos h6, if_neg (by unfold CK; omega)]
            · by_cases h7 : a < -4294967296
              · rw [if_neg h5, if_neg h6, if_pos h7, if_neg (by unfold CK; omega)]
              · by_cases h8 : a > 4294967296
                · rw [if_neg h5, if_neg h6, if_neg h7, if_pos h8, if_neg (by unfold CK; omega)]
                · rw [if_neg h5, if_neg h6, if_neg h7, if_neg h8, if_pos (by unfold CK; omega)]
theorem turns_eq {n d u : Int} (hd : 1 ≤ d) : u / d * n + u % d * n / d = gone n d u := by
  unfold gone
  have e := Int.mul_ediv_add_emod u d
  have : n * u = u % d * n + d * (u / d * n) := by
    rw [← Int.mul_assoc, ← Int.add_mul, Int.add_comm, e, Int.mul_comm]
  rw [this, Int.add_mul_ediv_left _ _ (by omega)]
  omega
theorem rreads_eq (k : Nat) (n d o a t : Int) : vespersref06_Reads.f (k + 1) n d o a t = some (if CK n d o a ∧ o ≤ t ∧ t ≤ 4294967296 then (gone n d (t - o) + a, 0) else (0, 60)) := by
  unfold vespersref06_Reads.f
  rw [rcheck_eq]
  simp only [Option.bind_some]
  by_cases h : CK n d o a
  · have hc := h
    unfold CK at hc
    rw [if_pos h, if_pos rfl]
    by_cases h1 : t < o
    · rw [if_pos h1, if_neg (by omega)]
    · by_cases h2 : t > 4294967296
      · rw [if_neg h1, if_pos h2, if_neg (by omega)]
      · have p1 : CK n d o a ∧ o ≤ t ∧ t ≤ 4294967296 := ⟨h, by omega, by omega⟩
        rw [if_neg h1, if_neg h2, if_neg (by omega), if_pos p1, wr (t - o) (by omega), tdiv_eq (by omega), Int.tmod_eq_emod_of_nonneg (by omega)]
        have g := gone_bd (n := n) (d := d) (u := t - o) (by omega) (by omega) (by omega) (by omega)
        have e := turns_eq (n := n) (d := d) (u := t - o) (by omega)
        have r1 := Int.emod_nonneg (t - o) (show d ≠ 0 by omega)
        have s1 := Int.emod_lt_of_pos (t - o) (show 0 < d by omega)
        have q1 : 0 ≤ (t - o) / d := Int.ediv_nonneg (by omega) (by omega)
        have q2 : (t - o) / d ≤ t - o := Int.ediv_le_self _ (by omega)
        have b1 := mul_bd (x := (t - o) / d) (y := n) (B := 4294967296) (C := 131072) q1 (by omega) (by omega) (by omega)
        have b2 := mul_bd (x := (t - o) % d) (y := n) (B := 65536) (C := 131072) r1 (by omega) (by omega) (by omega)
        have q3 : 0 ≤ (t - o) % d * n / d := Int.ediv_nonneg b2.1 (by omega)
        have q4 : (t - o) % d * n / d ≤ (t - o) % d * n := Int.ediv_le_self _ b2.1
        rw [wr ((t - o) / d) (by omega), wr ((t - o) / d * n) (by omega), wr (a + (t - o) / d * n) (by omega), wr ((t - o) % d * n) (by omega), tdiv_eq b2.1, wr ((t - o) % d * n / d) (by omega), wr _ (by omega)]
        rw [show a + (t - o) / d * n + (t - o) % d * n / d = gone n d (t - o) + a from by omega]
  · rw [if_neg h, if_neg (by decide), if_neg (fun x => h x.1)]
/-- When, as a number. -/
def wh (n d o a x : Int) : Int := if x ≤ a then o else o + ticks n d (x - a)
theorem wh_le {n d o a x m : Int} (hc : CK n d o a) (hm : o ≤ m) : x ≤ gone n d (m - o) + a ↔ wh n d o a x ≤ m := by
  unfold CK at hc
  unfold wh
  have g := gone_bd (n := n) (d := d) (u := m - o) (by omega) (by omega) (by omega) (by omega)
  by_cases h : x ≤ a
  · rw [if_pos h]; omega
  · rw [if_neg h]
    have t3 := gone_ticks (n := n) (d := d) (y := x - a) (by omega) (by omega) (by omega)
    constructor
    · intro h1
      have := ticks_le (n := n) (d := d) (u := m - o) (y := x - a) (by omega) (by omega) (by omega) (by omega)
      omega
    · intro h1
      have := gone_mono (n := n) (d := d) (u := ticks n d (x - a)) (v := m - o) (by omega) (by omega) (by omega)
      omega
theorem l0_eq (n d o a x : Int) (hc : CK n d o a) : ∀ (m k : Nat) (lo hi : Int), hi - lo < 2 ^ m → m + 2 ≤ k → o ≤ lo → lo ≤ wh n d o a x → wh n d o a x ≤ hi → hi ≤ 4294967296 →
    vespersref06_When.l0 k x lo hi n d o a = some (wh n d o a x, 0) := by
  intro m
  have h := hc
  unfold CK at h
  induction m with
  | zero =>
    intro k lo hi h1 h2 h3 h4 h5 h6
    obtain ⟨k, rfl⟩ : ∃ m, k = m + 1 := ⟨k - 1, by omega⟩
    simp only [vespersref06_When.l0]
    rw [if_neg (by simp at h1; omega), show lo = wh n d o a x from by simp at h1; omega]
  | succ m ih =>
    intro k lo hi h1 h2 h3 h4 h5 h6
    obtain ⟨k, rfl⟩ : ∃ m, k = m + 2 := ⟨k - 2, by omega⟩
    simp only [vespersref06_When.l0]
    rw [Int.pow_succ] at h1
    by_cases hl : lo < hi
    · rw [if_pos hl, wr (lo + hi) (by omega), Int.tdiv_eq_ediv_of_nonneg (by omega), wr ((lo + hi) / 2) (by omega), rreads_eq]
      have p1 : CK n d o a ∧ o ≤ (lo + hi) / 2 ∧ (lo + hi) / 2 ≤ 4294967296 := ⟨hc, by omega, by omega⟩
      rw [if_pos p1]
      simp only [Option.bind_some]
      have w := wh_le (n := n) (d := d) (o := o) (a := a) (x := x) (m := (lo + hi) / 2) hc (by omega)
      by_cases h7 : gone n d ((lo + hi) / 2 - o) + a ≥ x
      · rw [if_pos h7]
        exact ih (k + 1) lo ((lo + hi) / 2) (by omega) (by omega) h3 h4 (w.1 h7) (by omega)
      · rw [if_neg h7, wr ((lo + hi) / 2 + 1) (by omega)]
        have : ¬ wh n d o a x ≤ (lo + hi) / 2 := fun z => h7 (w.2 z)
        exact ih (k + 1) ((lo + hi) / 2 + 1) hi (by omega) (by omega) (by omega) (by omega) h5 h6
    · rw [if_neg hl, show lo = wh n d o a x from by omega]
theorem rwhen_eq (k : Nat) (n d o a x : Int) (hk : 40 ≤ k) : vespersref06_When.f k n d o a x =
    some (if CK n d o a then if x > gone n d (4294967296 - o) + a then (0, 61) else if x ≤ a then (o, 0) else (o + ticks n d (x - a), 0) else (0, 60)) := by
  obtain ⟨k, rfl⟩ : ∃ m, k = m + 1 := ⟨k - 1, by omega⟩
  unfold vespersref06_When.f
  rw [rcheck_eq, rreads_eq]
  simp only [Option.bind_some]
  by_cases hc : CK n d o a
  · have h := hc
    unfold CK at h
    have p1 : CK n d o a ∧ o ≤ 4294967296 ∧ (4294967296 : Int) ≤ 4294967296 := ⟨hc, by omega, by omega⟩
    rw [if_pos hc, if_pos rfl, if_pos p1, if_pos hc]
    simp only
    by_cases h1 : x > gone n d (4294967296 - o) + a
    · rw [if_pos h1, if_pos (by omega)]
    · rw [if_neg h1, if_neg (by omega)]
      have w := (wh_le (n := n) (d := d) (o := o) (a := a) (x := x) (m := 4294967296) hc (by omega)).1 (by omega)
      have w0 : o ≤ wh n d o a x := by
        unfold wh
        split
        · omega
        · have := ticks_spec (n := n) (d := d) (y := x - a) (by omega) (by omega) (by omega)
          omega
      rw [l0_eq n d o a x hc 33 (k + 1) o 4294967296 (by omega) (by omega) (by omega) w0 w (by omega)]
      unfold wh
      split <;> rfl
  · rw [if_neg hc, if_neg (by decide), if_neg hc]
theorem rset_eq (k : Nat) (n d o a by_ : Int) (hb : -9223372036854775808 ≤ by_ ∧ by_ ≤ 9223372036854775807) : vespersref06_Set.f (k + 2) n d o a by_ =
    some (if CK n d o a ∧ -8589934592 ≤ by_ ∧ by_ ≤ 8589934592 ∧ -4294967296 ≤ a + by_ ∧ a + by_ ≤ 4294967296 then (n, d, o, a + by_, 0) else (0, 0, 0, 0, 60)) := by
  unfold vespersref06_Set.f
  simp only [rcheck_eq, Option.bind_some, vespersref06_Set.j0]
  by_cases hc : CK n d o a
  · have h := hc
    unfold CK at h
    rw [if_pos hc, if_pos rfl]
    by_cases h1 : by_ > 8589934592
    · rw [if_pos h1, if_true, if_neg (by omega)]
    · rw [if_neg h1]
      by_cases h2 : by_ < -8589934592
      · rw [decide_eq_true h2, if_pos rfl, if_neg (by omega)]
      · rw [decide_eq_false h2, if_neg (by decide), wr (a + by_) (by omega)]
        by_cases h3 : -4294967296 ≤ a + by_ ∧ a + by_ ≤ 4294967296
        · have hc' : CK n d o (a + by_) := by unfold CK; omega
          rw [if_pos hc', if_pos rfl, if_pos ⟨hc, by omega, by omega, h3.1, h3.2⟩]
        · have hc' : ¬ CK n d o (a + by_) := by unfold CK; omega
          rw [if_neg hc', if_neg (by decide), if_neg (by omega)]
  · rw [if_neg hc, if_neg (by decide), if_true, if_neg (fun x => hc x.1)]
theorem rrestart_eq (k : Nat) (n d o a t : Int) : vespersref06_Restart.f (k + 1) n d o a t = some (if CK n d o a ∧ 0 ≤ t ∧ t ≤ 4294967296 then (n, d, t, 0, 0) else (0, 0, 0, 0, 60)) := by
  unfold vespersref06_Restart.f
  simp only [rcheck_eq, Option.bind_some]
  by_cases hc : CK n d o a
  · rw [if_pos hc, if_pos rfl]
    by_cases h1 : t < 0
    · rw [if_pos h1, if_neg (by omega)]
    · rw [if_neg h1]
      by_cases h2 : t > 4294967296
      · rw [if_pos h2, if_neg (by omega)]
      · rw [if_neg h2, if_pos ⟨hc, by omega, by omega⟩]
  · rw [if_neg hc, if_neg (by decide), if_neg (fun x => hc x.1)]
theorem rkeeps_eq (k : Nat) (n d rho : Int) (h : -9223372036854775808 ≤ rho ∧ rho ≤ 9223372036854775807) :
    vespersref06_Keeps.f (k + 1) n d rho = some (if CK n d 0 0 ∧ 4 ≤ rho ∧ rho ≤ 1048576 ∧ (n - d) * rho ≤ d ∧ (d - n) * rho ≤ d then 0 else 60) := by
  unfold vespersref06_Keeps.f
  rw [rcheck_eq]
  simp only [Option.bind_some, vespersref06_Keeps.j0]
  by_cases hc : CK n d 0 0
  · rw [if_pos hc, if_pos rfl]
    by_cases h1 : rho < 4
    · rw [if_pos h1, if_true, if_neg (by omega)]
    · rw [if_neg h1]
      by_cases h2 : rho > 1048576
      · rw [decide_eq_true h2, if_pos rfl, if_neg (by omega)]
      · rw [decide_eq_false h2, if_neg (by decide)]
        unfold CK at hc
        rw [wr (n - d) (by omega), wr (d - n) (by omega)]
        have e : (d - n) * rho = -((n - d) * rho) := by rw [← Int.neg_mul, Int.neg_sub]
        have b : -(65536 * 1048576) ≤ (n - d) * rho ∧ (n - d) * rho ≤ 65536 * 1048576 := by
          by_cases h4 : 0 ≤ n - d
          · have := mul_bd (x := n - d) (y := rho) (B := 65536) (C := 1048576) (by omega) (by omega) (by omega) (by omega); omega
          · have := mul_bd (x := d - n) (y := rho) (B := 65536) (C := 1048576) (by omega) (by omega) (by omega) (by omega); omega
        rw [wr ((n - d) * rho) (by omega), wr ((d - n) * rho) (by omega)]
        by_cases h5 : (n - d) * rho > d
        · rw [if_pos h5, if_neg (by omega)]
        · rw [if_neg h5]
          by_cases h6 : (d - n) * rho > d
          · rw [if_pos h6, if_neg (by omega)]
          · rw [if_neg h6, if_pos ⟨by unfold CK; omega, by omega, by omega, by omega, by omega⟩]
  · rw [if_neg hc, if_neg (by decide), if_true, if_neg (fun x => hc x.1)]
theorem proved : vesperslaw06_RateClocks.Pure := by
  intro n d o a rho t x b _ _ _ _ hr ht hx hb
  have hr := wf64 hr
  have ht := wf64 ht
  have hx := wf64 hx
  have hb := wf64 hb
  refine ⟨38 + 2, ?_⟩
  unfold vesperslaw06_RateClocks.f
  rw [reads_eq _ _ _ _ _ ht, rreads_eq, when_eq _ _ _ _ _ hx, rwhen_eq _ _ _ _ _ _ (by omega), set_eq _ _ _ _ _ _ hb, rset_eq _ _ _ _ _ _ hb, restart_eq, rrestart_eq, check_eq, rcheck_eq, keeps_eq _ _ _ _ hr, rkeeps_eq _ _ _ _ hr]
  simp only [Option.bind_some, if_true, beq_self_eq_true, Bool.and_self]
end LRateClocks
end Go.Proofs.Ytfeekkcgmnkofaa.Pure
