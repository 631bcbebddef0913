/- Between two times a clock that keeps rho goes on by as much as the time, but for a part of it, one of rho, and for less than 1; it never goes back. -/
import Derived.Test.YtfeekkcgmnkofaaXRateDriftx3
import Derived.OpenShut
namespace Go.Proofs.Ytfeekkcgmnkofaa.Pure
open Go.RowKit Go.Proofs.Ytfeekkcgmnkofaa.XRateDrift Go.Proofs.YtfeekkcgmnkofaaW.PrintWords Go.Proofs.YtfeekkcgmnkofaaW.PrintLast Go.Proofs.YtfeekkcgmnkofaaW.PrintMore
set_option linter.unusedVariables false
set_option linter.unusedSimpArgs false
namespace LRateDrift
theorem wr (x : Int) (h : -9223372036854775808 ≤ x ∧ x ≤ 9223372036854775807) : wrap64 x = x := by unfold wrap64; omega
theorem wf64 {x : Int} (h : (Lit.int .i64 x).wf = true) : -9223372036854775808 ≤ x ∧ x ≤ 9223372036854775807 := bounds_i64 h
/-- A clock that may be. -/
def CK (n d o a : Int) : Prop := 1 ≤ d ∧ d ≤ 65536 ∧ 1 ≤ n ∧ n ≤ 2 * d ∧ 0 ≤ o ∧ o ≤ 4294967296 ∧ -4294967296 ≤ a ∧ a ≤ 4294967296
instance (n d o a : Int) : Decidable (CK n d o a) := by unfold CK; infer_instance
theorem in_eq (x l m : Int) : rate_Check_1.f x l m = some (decide (l ≤ x ∧ x ≤ m)) := by
  unfold rate_Check_1.f
  by_cases h : x ≥ l
  · rw [if_pos h]; by_cases g : x ≤ m <;> simp [g, h]
  · rw [if_neg h]; simp; omega
theorem check_eq (n d o a : Int) : rate_Check.f n d o a = some (if CK n d o a then 0 else 60) := by
  unfold rate_Check.f
  simp only [in_eq, Option.bind_some]
  by_cases h1 : 1 ≤ d ∧ d ≤ 65536
  · rw [wr (2 * d) (by omega), decide_eq_true h1, if_pos rfl]
    by_cases h2 : 1 ≤ n ∧ n ≤ 2 * d
    · rw [decide_eq_true h2, if_pos rfl]
      by_cases h3 : 0 ≤ o ∧ o ≤ 4294967296
      · rw [decide_eq_true h3, if_pos rfl]
        by_cases h4 : -4294967296 ≤ a ∧ a ≤ 4294967296
        · rw [decide_eq_true h4, if_pos rfl, if_pos (by unfold CK; omega)]
        · rw [decide_eq_false h4, if_neg (by decide), if_neg (by unfold CK; omega)]
      · rw [decide_eq_false h3, if_neg (by decide), if_neg (by unfold CK; omega)]
    · rw [decide_eq_false h2, if_neg (by decide), if_neg (by unfold CK; omega)]
  · rw [decide_eq_false h1, if_neg (by decide), if_neg (by unfold CK; omega)]
theorem mul_bd {x y B C : Int} (hx : 0 ≤ x) (hx' : x ≤ B) (hy : 0 ≤ y) (hy' : y ≤ C) : 0 ≤ x * y ∧ x * y ≤ B * C :=
  ⟨Int.mul_nonneg hx hy, Int.le_trans (Int.mul_le_mul_of_nonneg_right hx' hy) (Int.mul_le_mul_of_nonneg_left hy' (by omega))⟩
theorem tdiv_eq {x y : Int} (hx : 0 ≤ x) : Int.tdiv x y = x / y := Int.tdiv_eq_ediv_of_nonneg hx
/-- How far a clock has gone. -/
def gone (n d u : Int) : Int := n * u / d
theorem gone_bd {n d u : Int} (hd : 1 ≤ d) (hn : 1 ≤ n) (hn' : n ≤ 2 * d) (hu : 0 ≤ u) : 0 ≤ gone n d u ∧ gone n d u ≤ 2 * u := by
  unfold gone
  constructor
  · exact Int.ediv_nonneg (Int.mul_nonneg (by omega) hu) (by omega)
  · apply Int.ediv_le_of_le_mul (by omega)
    have := Int.mul_le_mul_of_nonneg_right hn' hu
    rw [show 2 * u * d = 2 * d * u from by rw [Int.mul_assoc, Int.mul_comm u d, ← Int.mul_assoc]]
    exact this
theorem reads_eq (n d o a t : Int) (ht : -9223372036854775808 ≤ t ∧ t ≤ 9223372036854775807) : rate_Reads.f n d o a t = some (if CK n d o a ∧ o ≤ t ∧ t ≤ 4294967296 then (gone n d (t - o) + a, 0) else (0, 60)) := by
  unfold rate_Reads.f
  rw [check_eq]
  simp only [Option.bind_some]
  by_cases h : CK n d o a
  · have hc := h
    unfold CK at hc
    rw [if_pos h, if_pos rfl]
    by_cases h1 : t < o
    · rw [if_pos h1, if_neg (by omega)]
    · by_cases h2 : t > 4294967296
      · rw [if_neg h1, if_pos h2, if_neg (by omega)]
      · rw [if_neg h1, if_neg h2, if_pos ⟨h, by omega, by omega⟩, wr (t - o) (by omega)]
        unfold rate_clock_gone.f
        have b := mul_bd (x := n) (y := t - o) (B := 131072) (C := 4294967296) (by omega) (by omega) (by omega) (by omega)
        have g := gone_bd (n := n) (d := d) (u := t - o) (by omega) (by omega) (by omega) (by omega)
        unfold gone at g ⊢
        rw [if_neg (by omega), wr (n * (t - o)) (by omega), tdiv_eq b.1, wr _ (by omega)]
        simp only [Option.bind_some]
        rw [wr _ (by omega)]
  · rw [if_neg h, if_neg (by decide), if_neg (fun x => h x.1)]
theorem alive_eq : vesperslaw06_alive.f = some true := by decide +kernel
theorem mx_eq (x y : Int) : mx x y = if x ≤ y then y else x := by unfold mx; split <;> split <;> omega
theorem keeps_eq (k : Nat) (n d rho : Int) (h : -9223372036854775808 ≤ rho ∧ rho ≤ 9223372036854775807) :
    rate_Keeps.f (k + 1) n d rho = some (if CK n d 0 0 ∧ 4 ≤ rho ∧ rho ≤ 1048576 ∧ (n - d) * rho ≤ d ∧ (d - n) * rho ≤ d then 0 else 60) := by
  unfold rate_Keeps.f
  rw [check_eq]
  simp only [Option.bind_some, rate_Keeps.j0]
  by_cases hc : CK n d 0 0
  · rw [if_pos hc, if_pos rfl]
    by_cases h1 : rho < 4
    · rw [if_pos h1, if_true, if_neg (by omega)]
    · rw [if_neg h1]
      by_cases h2 : rho > 1048576
      · rw [decide_eq_true h2, if_pos rfl, if_neg (by omega)]
      · rw [decide_eq_false h2, if_neg (by decide)]
        unfold CK at hc
        rw [wr (n - d) (by omega), wr (-(n - d)) (by omega), mx_eq]
        by_cases h3 : n = d
        · subst h3
          rw [if_neg (by simp), if_pos ⟨by unfold CK; omega, by omega, by omega, by rw [Int.sub_self]; omega, by rw [Int.sub_self]; omega⟩]
        · rw [if_pos (by simp [h3])]
          by_cases h4 : n - d ≤ -(n - d)
          · rw [if_pos h4, show -(n - d) = d - n from by omega]
            have b := mul_bd (x := rho) (y := d - n) (B := 1048576) (C := 65536) (by omega) (by omega) (by omega) (by omega)
            have b2 : (n - d) * rho ≤ 0 := by have := Int.mul_le_mul_of_nonneg_right (show n - d ≤ 0 by omega) (show 0 ≤ rho by omega); omega
            rw [wr _ (by omega), Int.mul_comm rho]
            by_cases h5 : (d - n) * rho ≤ d
            · rw [if_neg (by omega), if_pos ⟨by unfold CK; omega, by omega, by omega, by omega, h5⟩]
            · rw [if_pos (by omega), if_neg (fun x => h5 x.2.2.2.2)]
          · rw [if_neg h4]
            have b := mul_bd (x := rho) (y := n - d) (B := 1048576) (C := 65536) (by omega) (by omega) (by omega) (by omega)
            have b2 : (d - n) * rho ≤ 0 := by have := Int.mul_le_mul_of_nonneg_right (show d - n ≤ 0 by omega) (show 0 ≤ rho by omega); omega
            rw [wr _ (by omega), Int.mul_comm rho]
            by_cases h5 : (n - d) * rho ≤ d
            · rw [if_neg (by omega), if_pos ⟨by unfold CK; omega, by omega, by omega, h5, by omega⟩]
            · rw [if_pos (by omega), if_neg (fun x => h5 x.2.2.2.1)]
  · rw [if_neg hc, if_neg (by decide), if_true, if_neg (fun x => hc x.1)]
/-- The mathematics: u ≤ v ticks. -/
theorem drift {n d rho u v : Int} (hd : 1 ≤ d) (hn : 1 ≤ n) (hr : 4 ≤ rho) (h1 : (n - d) * rho ≤ d) (h2 : (d - n) * rho ≤ d) (hu : 0 ≤ u) (huv : u ≤ v) :
    0 ≤ gone n d v - gone n d u ∧ ((gone n d v - gone n d u) - (v - u) - 1) * rho < v - u + 1 ∧ ((v - u) - (gone n d v - gone n d u) - 1) * rho < v - u + 1 := by
  unfold gone
  have m0 : n * u ≤ n * v := Int.mul_le_mul_of_nonneg_left huv (by omega)
  have e1 := Int.mul_ediv_add_emod (n * u) d
  have e2 := Int.mul_ediv_add_emod (n * v) d
  have r1 := Int.emod_nonneg (n * u) (show d ≠ 0 by omega)
  have r2 := Int.emod_nonneg (n * v) (show d ≠ 0 by omega)
  have s1 := Int.emod_lt_of_pos (n * u) (show 0 < d by omega)
  have s2 := Int.emod_lt_of_pos (n * v) (show 0 < d by omega)
  have mono : n * u / d ≤ n * v / d := Int.ediv_le_ediv (by omega) m0
  generalize n * u / d = a at *
  generalize n * v / d = b at *
  have hT : n * (v - u) = n * v - n * u := Int.mul_sub _ _ _
  -- d * (b - a) lies within d of n * (v - u)
  have e3 : d * (b - a) = d * b - d * a := Int.mul_sub _ _ _
  have k1 : d * (b - a) < n * (v - u) + d := by rw [e3, hT]; omega
  have k2 : n * (v - u) - d < d * (b - a) := by rw [e3, hT]; omega
  have tnn : 0 ≤ v - u := by omega
  generalize v - u = t at *
  refine ⟨by omega, ?_, ?_⟩
  · have q1 : d * (b - a - t - 1) < (n - d) * t := by
      have : d * (b - a - t - 1) = d * (b - a) - d * t - d := by rw [Int.mul_sub, Int.mul_sub, Int.mul_one]
      rw [this, Int.sub_mul]; omega
    have q2 : (d * (b - a - t - 1)) * rho < ((n - d) * t) * rho := Int.mul_lt_mul_of_pos_right q1 (by omega)
    have q3 : ((n - d) * t) * rho ≤ d * t := by
      rw [Int.mul_assoc, Int.mul_comm t rho, ← Int.mul_assoc]
      exact Int.mul_le_mul_of_nonneg_right h1 tnn
    have q4 : d * ((b - a - t - 1) * rho) < d * (t + 1) := by
      rw [← Int.mul_assoc, Int.mul_add]; omega
    exact Int.lt_of_mul_lt_mul_left q4 (by omega)
  · have q1 : d * (t - (b - a) - 1) < (d - n) * t := by
      have : d * (t - (b - a) - 1) = d * t - d * (b - a) - d := by rw [Int.mul_sub, Int.mul_sub, Int.mul_one]
      rw [this, Int.sub_mul]; omega
    have q2 : (d * (t - (b - a) - 1)) * rho < ((d - n) * t) * rho := Int.mul_lt_mul_of_pos_right q1 (by omega)
    have q3 : ((d - n) * t) * rho ≤ d * t := by
      rw [Int.mul_assoc, Int.mul_comm t rho, ← Int.mul_assoc]
      exact Int.mul_le_mul_of_nonneg_right h2 tnn
    have q4 : d * ((t - (b - a) - 1) * rho) < d * (t + 1) := by
      rw [← Int.mul_assoc, Int.mul_add]; omega
    exact Int.lt_of_mul_lt_mul_left q4 (by omega)
theorem j1_true (k : Nat) (x1 x2 x3 : Int) (x10 x12 : Int) : vesperslaw06_RateDrift.j1 (k + 1) x1 x2 x3 true x10 x12 true = some true := by
  simp [vesperslaw06_RateDrift.j1]
theorem j0_eq (k : Nat) (n d o a rho s t : Int) (hr : -9223372036854775808 ≤ rho ∧ rho ≤ 9223372036854775807) (hs : -9223372036854775808 ≤ s ∧ s ≤ 9223372036854775807) (ht : -9223372036854775808 ≤ t ∧ t ≤ 9223372036854775807) (hst : s ≤ t) :
    vesperslaw06_RateDrift.j0 (k + 3) rho s t true n d o a = some true := by
  simp only [vesperslaw06_RateDrift.j0]
  rw [reads_eq _ _ _ _ _ hs, reads_eq _ _ _ _ _ ht]
  simp only [Option.bind_some]
  by_cases h1 : CK n d o a ∧ o ≤ s ∧ s ≤ 4294967296
  · by_cases h2 : CK n d o a ∧ o ≤ t ∧ t ≤ 4294967296
    · rw [if_pos h1, if_pos h2, if_pos rfl, if_pos rfl, keeps_eq _ _ _ _ hr]
      simp only [Option.bind_some]
      by_cases h3 : CK n d 0 0 ∧ 4 ≤ rho ∧ rho ≤ 1048576 ∧ (n - d) * rho ≤ d ∧ (d - n) * rho ≤ d
      · rw [if_pos h3]
        have hc := h1.1
        unfold CK at hc
        have g1 := gone_bd (n := n) (d := d) (u := s - o) (by omega) (by omega) (by omega) (by omega)
        have g2 := gone_bd (n := n) (d := d) (u := t - o) (by omega) (by omega) (by omega) (by omega)
        obtain ⟨m1, m2, m3⟩ := drift (n := n) (d := d) (rho := rho) (u := s - o) (v := t - o) (by omega) (by omega) (by omega) h3.2.2.2.1 h3.2.2.2.2 (by omega) (by omega)
        have hg : gone n d (t - o) - gone n d (s - o) ≤ 2 * 4294967296 := by omega
        generalize gone n d (t - o) = y at *
        generalize gone n d (s - o) = x at *
        rw [show t - o - (s - o) = t - s from by omega] at m2 m3
        simp only [vesperslaw06_RateDrift.j1]
        rw [if_neg (by decide), wr (y + a - (x + a)) (by omega), wr (t - s) (by omega), wr _ (by omega)]
        by_cases h4 : y + a - (x + a) - (t - s) < 0
        · rw [if_pos h4, if_true, if_pos (by omega), wr (-(_)) (by omega), wr (_ - 1) (by omega), wr (t - s + 1) (by omega)]
          rw [show -(y + a - (x + a) - (t - s)) - 1 = t - s - (y - x) - 1 from by omega]
          have b := mul_bd (x := t - s - (y - x) - 1) (y := rho) (B := 4294967296) (C := 1048576) (by omega) (by omega) (by omega) (by omega)
          rw [wr _ (by omega), decide_eq_true (by omega)]
        · rw [if_neg h4, if_true, if_pos (by omega), wr (_ - 1) (by omega), wr (t - s + 1) (by omega)]
          rw [show y + a - (x + a) - (t - s) - 1 = y - x - (t - s) - 1 from by omega]
          have b : -1048576 ≤ (y - x - (t - s) - 1) * rho ∧ (y - x - (t - s) - 1) * rho ≤ 8589934592 * 1048576 := by
            by_cases h5 : y - x - (t - s) - 1 < 0
            · rw [show y - x - (t - s) - 1 = -1 from by omega]; omega
            · have := mul_bd (x := y - x - (t - s) - 1) (y := rho) (B := 8589934592) (C := 1048576) (by omega) (by omega) (by omega) (by omega)
              omega
          rw [wr _ (by omega), decide_eq_true (by omega)]
      · rw [if_neg h3]
        exact j1_true _ _ _ _ _ _
    · rw [if_pos h1, if_neg h2, if_pos rfl, if_neg (by decide)]
      exact j1_true _ _ _ _ _ _
  · rw [if_neg h1, if_neg (by decide)]
    exact j1_true _ _ _ _ _ _
theorem proved : vesperslaw06_RateDrift.Pure := by
  intro n d o a rho s t _ _ _ _ hr hs ht
  have hr := wf64 hr
  have hs := wf64 hs
  have ht := wf64 ht
  refine ⟨3, ?_⟩
  unfold vesperslaw06_RateDrift.f
  rw [alive_eq]
  simp only [Option.bind_some]
  by_cases h : s > t
  · rw [if_pos h]
    exact j0_eq 0 _ _ _ _ _ _ _ hr ht hs (by omega)
  · rw [if_neg h]
    exact j0_eq 0 _ _ _ _ _ _ _ hr hs ht (by omega)
end LRateDrift
end Go.Proofs.Ytfeekkcgmnkofaa.Pure
