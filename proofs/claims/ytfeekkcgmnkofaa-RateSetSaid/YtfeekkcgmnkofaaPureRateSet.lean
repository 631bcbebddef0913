/- A clock that is set on reads so much more at each time; set back it is as it was; restarted it begins with 0; any clock, numbers, and time. -/
import Derived.Test.YtfeekkcgmnkofaaXRateSetx4
import Derived.OpenShut
namespace Go.Proofs.Ytfeekkcgmnkofaa.Pure
open Go.RowKit Go.Proofs.Ytfeekkcgmnkofaa.XRateSet Go.Proofs.YtfeekkcgmnkofaaW.PrintWords Go.Proofs.YtfeekkcgmnkofaaW.PrintLast Go.Proofs.YtfeekkcgmnkofaaW.PrintMore
set_option linter.unusedVariables false
set_option linter.unusedSimpArgs false
namespace LRateSet
theorem wr (x : Int) (h : -9223372036854775808 ≤ x ∧ x ≤ 9223372036854775807) : wrap64 x = x := by unfold wrap64; omega
theorem wf64 {x : Int} (h : (Lit.int .i64 x).wf = true) : -9223372036854775808 ≤ x ∧ x ≤ 9223372036854775807 := bounds_i64 h
/-- A clock that may be. -/
def CK (n d o a : Int) : Prop := 1 ≤ d ∧ d ≤ 65536 ∧ 1 ≤ n ∧ n ≤ 2 * d ∧ 0 ≤ o ∧ o ≤ 4294967296 ∧ -4294967296 ≤ a ∧ a ≤ 4294967296
instance (n d o a : Int) : Decidable (CK n d o a) := by unfold CK; infer_instance
theorem in_eq (x l m : Int) : rate_Check_1.f x l m = some (decide (l ≤ x ∧ x ≤ m)) := by
  unfold rate_Check_1.f
  by_cases h : x ≥ l
  · rw [if_pos h]; by_cases g : x ≤ m <;> simp [g, h]
  · rw [if_neg h]; simp; omega
theorem check_eq (n d o a : Int) : rate_Check.f n d o a = some (if CK n d o a then 0 else 60) := by
  unfold rate_Check.f
  simp only [in_eq, Option.bind_some]
  by_cases h1 : 1 ≤ d ∧ d ≤ 65536
  · rw [wr (2 * d) (by omega), decide_eq_true h1, if_pos rfl]
    by_cases h2 : 1 ≤ n ∧ n ≤ 2 * d
    · rw [decide_eq_true h2, if_pos rfl]
      by_cases h3 : 0 ≤ o ∧ o ≤ 4294967296
      · rw [decide_eq_true h3, if_pos rfl]
        by_cases h4 : -4294967296 ≤ a ∧ a ≤ 4294967296
        · rw [decide_eq_true h4, if_pos rfl, if_pos (by unfold CK; omega)]
        · rw [decide_eq_false h4, if_neg (by decide), if_neg (by unfold CK; omega)]
      · rw [decide_eq_false h3, if_neg (by decide), if_neg (by unfold CK; omega)]
    · rw [decide_eq_false h2, if_neg (by decide), if_neg (by unfold CK; omega)]
  · rw [decide_eq_false h1, if_neg (by decide), if_neg (by unfold CK; omega)]
theorem mul_bd {x y B C : Int} (hx : 0 ≤ x) (hx' : x ≤ B) (hy : 0 ≤ y) (hy' : y ≤ C) : 0 ≤ x * y ∧ x * y ≤ B * C :=
  ⟨Int.mul_nonneg hx hy, Int.le_trans (Int.mul_le_mul_of_nonneg_right hx' hy) (Int.mul_le_mul_of_nonneg_left hy' (by omega))⟩
theorem tdiv_eq {x y : Int} (hx : 0 ≤ x) : Int.tdiv x y = x / y := Int.tdiv_eq_ediv_of_nonneg hx
/-- How far a clock has gone. -/
def gone (n d u : Int) : Int := n * u / d
theorem gone_bd {n d u : Int} (hd : 1 ≤ d) (hn : 1 ≤ n) (hn' : n ≤ 2 * d) (hu : 0 ≤ u) : 0 ≤ gone n d u ∧ gone n d u ≤ 2 * u := by
  unfold gone
  constructor
  · exact Int.ediv_nonneg (Int.mul_nonneg (by omega) hu) (by omega)
  · apply Int.ediv_le_of_le_mul (by omega)
    have := Int.mul_le_mul_of_nonneg_right hn' hu
    rw [show 2 * u * d = 2 * d * u from by rw [Int.mul_assoc, Int.mul_comm u d, ← Int.mul_assoc]]
    exact this
theorem reads_eq (n d o a t : Int) (ht : -9223372036854775808 ≤ t ∧ t ≤ 9223372036854775807) : rate_Reads.f n d o a t = some (if CK n d o a ∧ o ≤ t ∧ t ≤ 4294967296 then (gone n d (t - o) + a, 0) else (0, 60)) := by
  unfold rate_Reads.f
  rw [check_eq]
  simp only [Option.bind_some]
  by_cases h : CK n d o a
  · have hc := h
    unfold CK at hc
    rw [if_pos h, if_pos rfl]
    by_cases h1 : t < o
    · rw [if_pos h1, if_neg (by omega)]
    · by_cases h2 : t > 4294967296
      · rw [if_neg h1, if_pos h2, if_neg (by omega)]
      · rw [if_neg h1, if_neg h2, if_pos ⟨h, by omega, by omega⟩, wr (t - o) (by omega)]
        unfold rate_clock_gone.f
        have b := mul_bd (x := n) (y := t - o) (B := 131072) (C := 4294967296) (by omega) (by omega) (by omega) (by omega)
        have g := gone_bd (n := n) (d := d) (u := t - o) (by omega) (by omega) (by omega) (by omega)
        unfold gone at g ⊢
        rw [if_neg (by omega), wr (n * (t - o)) (by omega), tdiv_eq b.1, wr _ (by omega)]
        simp only [Option.bind_some]
        rw [wr _ (by omega)]
  · rw [if_neg h, if_neg (by decide), if_neg (fun x => h x.1)]
theorem alive_eq : vesperslaw06_alive.f = some true := by decide +kernel
theorem set_eq (k : Nat) (n d o a by_ : Int) (hb : -9223372036854775808 ≤ by_ ∧ by_ ≤ 9223372036854775807) : rate_Set.f (k + 1) n d o a by_ =
    some (if CK n d o a ∧ -8589934592 ≤ by_ ∧ by_ ≤ 8589934592 ∧ -4294967296 ≤ a + by_ ∧ a + by_ ≤ 4294967296 then (n, d, o, a + by_, 0) else (0, 0, 0, 0, 60)) := by
  unfold rate_Set.f
  simp only [check_eq, Option.bind_some, rate_Set.j0]
  by_cases hc : CK n d o a
  · have h := hc
    unfold CK at h
    rw [if_pos hc, if_pos rfl]
    by_cases h1 : by_ < -8589934592
    · rw [if_pos h1, if_true, if_neg (by omega)]
    · rw [if_neg h1]
      by_cases h2 : by_ > 8589934592
      · rw [decide_eq_true h2, if_pos rfl, if_neg (by omega)]
      · rw [decide_eq_false h2, if_neg (by decide), wr (a + by_) (by omega)]
        by_cases h3 : -4294967296 ≤ a + by_ ∧ a + by_ ≤ 4294967296
        · have hc' : CK n d o (a + by_) := by unfold CK; omega
          rw [if_pos hc', if_pos rfl, if_pos ⟨hc, by omega, by omega, h3.1, h3.2⟩]
        · have hc' : ¬ CK n d o (a + by_) := by unfold CK; omega
          rw [if_neg hc', if_neg (by decide), if_neg (by omega)]
  · rw [if_neg hc, if_neg (by decide), if_true, if_neg (fun x => hc x.1)]
theorem restart_eq (n d o a t : Int) : rate_Restart.f n d o a t = some (if CK n d o a ∧ 0 ≤ t ∧ t ≤ 4294967296 then (n, d, t, 0, 0) else (0, 0, 0, 0, 60)) := by
  unfold rate_Restart.f
  simp only [check_eq, Option.bind_some]
  by_cases hc : CK n d o a
  · rw [if_pos hc, if_pos rfl]
    by_cases h1 : t < 0
    · rw [if_pos h1, if_neg (by omega)]
    · rw [if_neg h1]
      by_cases h2 : t > 4294967296
      · rw [if_pos h2, if_neg (by omega)]
      · rw [if_neg h2, if_pos ⟨hc, by omega, by omega⟩]
  · rw [if_neg hc, if_neg (by decide), if_neg (fun x => hc x.1)]
theorem j0_eq (k : Nat) (n d o a t : Int) (ht : -9223372036854775808 ≤ t ∧ t ≤ 9223372036854775807) : vesperslaw06_RateSet.j0 (k + 1) t true n d o a = some true := by
  simp only [vesperslaw06_RateSet.j0]
  rw [restart_eq]
  simp only [Option.bind_some]
  by_cases h : CK n d o a ∧ 0 ≤ t ∧ t ≤ 4294967296
  · rw [if_pos h]
    simp only [if_true]
    have hc := h.1
    unfold CK at hc
    rw [reads_eq _ _ _ _ _ ht, if_pos ⟨by unfold CK; omega, by omega, by omega⟩]
    have g0 : gone n d (t - t) = 0 := by unfold gone; simp
    rw [g0]
    simp
  · rw [if_neg h]
    simp
theorem proved : vesperslaw06_RateSet.Pure := by
  intro n d o a b t _ _ _ _ hb ht
  have hb := wf64 hb
  have ht := wf64 ht
  refine ⟨1, ?_⟩
  unfold vesperslaw06_RateSet.f
  rw [alive_eq, set_eq 0 n d o a b hb]
  simp only [Option.bind_some]
  by_cases h : CK n d o a ∧ -8589934592 ≤ b ∧ b ≤ 8589934592 ∧ -4294967296 ≤ a + b ∧ a + b ≤ 4294967296
  · rw [if_pos h]
    simp only [if_true]
    have hc := h.1
    unfold CK at hc
    have hc' : CK n d o (a + b) := by unfold CK; omega
    rw [wr (-b) (by omega), reads_eq _ _ _ _ _ ht, reads_eq _ _ _ _ _ ht, set_eq 0 n d o (a + b) (-b) (by omega)]
    rw [if_pos (show CK n d o (a + b) ∧ -8589934592 ≤ -b ∧ -b ≤ 8589934592 ∧ -4294967296 ≤ a + b + -b ∧ a + b + -b ≤ 4294967296 from ⟨hc', by omega, by omega, by omega, by omega⟩)]
    simp only [Option.bind_some]
    rw [show a + b + -b = a from by omega]
    by_cases h2 : o ≤ t ∧ t ≤ 4294967296
    · have g := gone_bd (n := n) (d := d) (u := t - o) (by omega) (by omega) (by omega) (by omega)
      have p1 : CK n d o a ∧ o ≤ t ∧ t ≤ 4294967296 := ⟨h.1, h2⟩
      have p2 : CK n d o (a + b) ∧ o ≤ t ∧ t ≤ 4294967296 := ⟨hc', h2⟩
      rw [if_pos p1, if_pos p2]
      simp only [if_true]
      rw [wr _ (by omega), if_pos (by omega)]
      simp only [beq_self_eq_true, Bool.not_true, Bool.or_self]
      rw [if_neg (by decide)]
      exact j0_eq 0 n d o a t ht
    · have p1 : ¬ (CK n d o a ∧ o ≤ t ∧ t ≤ 4294967296) := fun x => h2 x.2
      have p2 : ¬ (CK n d o (a + b) ∧ o ≤ t ∧ t ≤ 4294967296) := fun x => h2 x.2
      rw [if_neg p1, if_neg p2]
      simp only [if_true]
      rw [if_neg (by decide)]
      simp only [beq_self_eq_true, Bool.not_true, Bool.or_self]
      rw [if_neg (by decide)]
      exact j0_eq 0 n d o a t ht
  · rw [if_neg h]
    simp only
    rw [if_neg (by decide)]
    exact j0_eq 0 n d o a t ht
end LRateSet
end Go.Proofs.Ytfeekkcgmnkofaa.Pure
