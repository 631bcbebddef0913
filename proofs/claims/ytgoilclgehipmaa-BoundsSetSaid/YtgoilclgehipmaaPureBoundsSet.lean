/- A clock that keeps the plan's Rho, and is set by at most Cap each time, with R - Cap of its own ticks at least between, stays within its envelope. -/
import Derived.Test.YtgoilclgehipmaaS6
namespace Go.Proofs.Ytgoilclgehipmaa.Pure
open Go Go.RowKit Go.Proofs.Ytgoilclgehipmaa.S
open Go.Proofs.Ytgoilclgehipmaa.SX (guardEq_self rounds rounds_next rounds_end)
set_option linter.unusedVariables false
set_option linter.unusedSimpArgs false
namespace LBoundsSet
theorem u32_b {x : Int} (h : (Lit.int .u32 x).wf = true) : 0 ≤ x ∧ x ≤ 4294967295 := by
  have a : IntKind.u32.min = 0 := rfl
  have b : IntKind.u32.max = 4294967295 := rfl
  simp [Lit.wf] at h
  omega
theorem i64_b {x : Int} (h : (Lit.int .i64 x).wf = true) : -9223372036854775808 ≤ x ∧ x ≤ 9223372036854775807 := by
  have a : IntKind.i64.min = -9223372036854775808 := rfl
  have b : IntKind.i64.max = 9223372036854775807 := rfl
  simp [Lit.wf] at h
  omega
theorem wr (x : Int) (h : -9223372036854775808 ≤ x ∧ x ≤ 9223372036854775807) : wrap64 x = x := by unfold wrap64; omega
theorem tdiv_eq {x y : Int} (hx : 0 ≤ x) : Int.tdiv x y = x / y := Int.tdiv_eq_ediv_of_nonneg hx
abbrev C1 (n k : Int) : Prop := 4 ≤ n ∧ n ≤ 16 ∧ 0 ≤ k ∧ 2 * k + 2 ≤ n
abbrev C2 (air d1 d2 : Int) : Prop := 1 ≤ air ∧ air ≤ 1048576 ∧ 0 ≤ d1 ∧ d1 ≤ d2 ∧ d2 ≤ 1048576
abbrev C3 (s r : Int) : Prop := 1 ≤ s ∧ s ≤ 1048576 ∧ 4 ≤ r ∧ r ≤ 1048576
/-- A number from one to another, at most the longest slot. -/
abbrev UP (least x : Int) : Prop := least ≤ x ∧ x ≤ 1048576
abbrev C9 (q b p : Int) : Prop := 1 ≤ q ∧ q ≤ 64 ∧ 1 ≤ b ∧ b ≤ 8 ∧ 1 ≤ p ∧ p ≤ 32
abbrev KN (n k s air d1 d2 r : Int) : Prop := C1 n k ∧ C2 air d1 d2 ∧ C3 s r
def G (n s r : Int) : Int := 2 * (2 * (n * s) / r + 4)
abbrev E (d1 d2 : Int) : Int := d2 - d1 + 6
abbrev A (n s r d1 d2 : Int) : Int := 2 * (E d1 d2 + G n s r)
theorem rb {n s : Int} (h : 4 ≤ n ∧ n ≤ 16) (h2 : 1 ≤ s ∧ s ≤ 1048576) : 4 ≤ n * s ∧ n * s ≤ 16777216 := by
  have a := Int.mul_le_mul h.1 h2.1 (by omega) (by omega)
  have b := Int.mul_le_mul h.2 h2.2 (by omega) (by omega)
  omega
theorem gb {n s r : Int} (h : 4 ≤ n ∧ n ≤ 16) (h2 : 1 ≤ s ∧ s ≤ 1048576) (h3 : 4 ≤ r) : 0 ≤ 2 * (n * s) / r ∧ 2 * (n * s) / r ≤ 33554432 ∧ 8 ≤ G n s r ∧ G n s r ≤ 67108872 := by
  have a := rb h h2
  have b : 0 ≤ 2 * (n * s) / r := Int.ediv_nonneg (by omega) (by omega)
  have c : 2 * (n * s) / r ≤ 2 * (n * s) := Int.ediv_le_self _ (by omega)
  unfold G
  omega
theorem in_eq (a b c : Int) : plan_in.f a b c = some (decide (b ≤ a ∧ a ≤ c)) := by
  unfold plan_in.f
  by_cases h : a ≥ b
  · rw [if_pos h]; congr 1; rw [decide_eq_decide]; omega
  · rw [if_neg h]; congr 1; symm; exact decide_eq_false (by omega)
section
variable (a0 a1 a2 a3 a4 a5 a6 a7 a8 a9 a10 a11 a12 a13 a14 a15 : Int)
theorem nodes_eq : plan_look_nodes.f a0 a1 a2 a3 a4 a5 a6 a7 a8 a9 a10 a11 a12 a13 a14 a15 = some (decide (C1 a0 a1)) := by
  unfold plan_look_nodes.f
  rw [in_eq, Option.bind_some]
  by_cases h : 4 ≤ a0 ∧ a0 ≤ 16
  · rw [decide_eq_true h, if_pos rfl, in_eq, Option.bind_some, wr (a0 - 2) (by omega), tdiv_eq (by omega), wr ((a0 - 2) / 2) (by omega)]
    congr 1; rw [decide_eq_decide]; omega
  · rw [decide_eq_false h, if_neg (by decide)]; congr 1; symm; exact decide_eq_false (by omega)
theorem air_eq : plan_look_air.f a0 a1 a2 a3 a4 a5 a6 a7 a8 a9 a10 a11 a12 a13 a14 a15 = some (decide (C2 a5 a6 a7)) := by
  unfold plan_look_air.f
  rw [in_eq, Option.bind_some]
  by_cases h : 1 ≤ a5 ∧ a5 ≤ 1048576
  · rw [decide_eq_true h, if_pos rfl, in_eq, Option.bind_some]
    by_cases h2 : a6 ≥ 0
    · rw [if_pos h2]; congr 1; rw [decide_eq_decide]; omega
    · rw [if_neg h2]; congr 1; symm; exact decide_eq_false (by omega)
  · rw [decide_eq_false h, if_neg (by decide)]; congr 1; symm; exact decide_eq_false (by omega)
theorem slot_eq : plan_look_slot.f a0 a1 a2 a3 a4 a5 a6 a7 a8 a9 a10 a11 a12 a13 a14 a15 = some (decide (C3 a2 a8)) := by
  unfold plan_look_slot.f
  rw [in_eq, Option.bind_some]
  by_cases h : 1 ≤ a2 ∧ a2 ≤ 1048576
  · rw [decide_eq_true h, if_pos rfl, in_eq, Option.bind_some]
    congr 1; rw [decide_eq_decide]; omega
  · rw [decide_eq_false h, if_neg (by decide)]; congr 1; symm; exact decide_eq_false (by omega)
theorem known_eq : plan_look_known.f a0 a1 a2 a3 a4 a5 a6 a7 a8 a9 a10 a11 a12 a13 a14 a15 = some (decide (KN a0 a1 a2 a5 a6 a7 a8)) := by
  unfold plan_look_known.f
  rw [nodes_eq, air_eq, slot_eq]
  simp only [Option.bind_some]
  by_cases h1 : C1 a0 a1
  · by_cases h2 : C2 a5 a6 a7
    · rw [decide_eq_true h1, decide_eq_true h2, if_pos rfl, if_pos rfl]; congr 1; rw [decide_eq_decide]; exact ⟨fun h => ⟨h1, h2, h⟩, fun h => h.2.2⟩
    · rw [decide_eq_true h1, decide_eq_false h2, if_pos rfl, if_neg (by decide)]; congr 1; symm; exact decide_eq_false (fun h => h2 h.2.1)
  · rw [decide_eq_false h1, if_neg (by decide)]; congr 1; symm; exact decide_eq_false (fun h => h1 h.1)
theorem queue_eq : plan_look_queue.f a0 a1 a2 a3 a4 a5 a6 a7 a8 a9 a10 a11 a12 a13 a14 a15 = some (decide (C9 a12 a13 a14)) := by
  unfold plan_look_queue.f
  rw [in_eq, in_eq, in_eq]
  simp only [Option.bind_some]
  by_cases h : 1 ≤ a12 ∧ a12 ≤ 64
  · by_cases h2 : 1 ≤ a13 ∧ a13 ≤ 8
    · rw [decide_eq_true h, decide_eq_true h2, if_pos rfl, if_pos rfl]; congr 1; rw [decide_eq_decide]; omega
    · rw [decide_eq_true h, decide_eq_false h2, if_pos rfl, if_neg (by decide)]; congr 1; symm; exact decide_eq_false (by omega)
  · rw [decide_eq_false h, if_neg (by decide)]; congr 1; symm; exact decide_eq_false (by omega)
variable (H : KN a0 a1 a2 a5 a6 a7 a8)
include H
theorem e_eq : plan_look_e.f a0 a1 a2 a3 a4 a5 a6 a7 a8 a9 a10 a11 a12 a13 a14 a15 = some (E a6 a7) := by
  unfold plan_look_e.f
  rw [wr (a7 - a6) (by omega), wr _ (by omega)]
theorem round_eq : plan_look_round.f a0 a1 a2 a3 a4 a5 a6 a7 a8 a9 a10 a11 a12 a13 a14 a15 = some (a0 * a2) := by
  unfold plan_look_round.f
  have b := rb (n := a0) (s := a2) (by omega) (by omega)
  rw [wr _ (by omega)]
theorem g_eq : plan_look_g.f a0 a1 a2 a3 a4 a5 a6 a7 a8 a9 a10 a11 a12 a13 a14 a15 = some (G a0 a2 a8) := by
  unfold plan_look_g.f
  have b := rb (n := a0) (s := a2) (by omega) (by omega)
  have c := gb (n := a0) (s := a2) (r := a8) (by omega) (by omega) (by omega)
  have e1 : E a6 a7 = a7 - a6 + 6 := rfl
  have e2 : A a0 a2 a8 a6 a7 = 2 * (E a6 a7 + G a0 a2 a8) := rfl
  rw [round_eq (H := H), Option.bind_some, if_neg (by omega), wr (2 * (a0 * a2)) (by omega), tdiv_eq (by omega), wr (2 * (a0 * a2) / a8) (by omega), wr (2 * (a0 * a2) / a8 + 4) (by omega), wr _ (by omega)]
  rfl
theorem a_eq : plan_look_a.f a0 a1 a2 a3 a4 a5 a6 a7 a8 a9 a10 a11 a12 a13 a14 a15 = some (A a0 a2 a8 a6 a7) := by
  unfold plan_look_a.f
  have c := gb (n := a0) (s := a2) (r := a8) (by omega) (by omega) (by omega)
  have e1 : E a6 a7 = a7 - a6 + 6 := rfl
  have e2 : A a0 a2 a8 a6 a7 = 2 * (E a6 a7 + G a0 a2 a8) := rfl
  rw [e_eq (H := H), g_eq (H := H), Option.bind_some, Option.bind_some, wr (E a6 a7 + G a0 a2 a8) (by omega), wr _ (by omega)]
theorem leastPi_eq : plan_look_leastPi.f a0 a1 a2 a3 a4 a5 a6 a7 a8 a9 a10 a11 a12 a13 a14 a15 = some (2 * (A a0 a2 a8 a6 a7 + G a0 a2 a8) + E a6 a7) := by
  unfold plan_look_leastPi.f
  have c := gb (n := a0) (s := a2) (r := a8) (by omega) (by omega) (by omega)
  have e1 : E a6 a7 = a7 - a6 + 6 := rfl
  have e2 : A a0 a2 a8 a6 a7 = 2 * (E a6 a7 + G a0 a2 a8) := rfl
  rw [a_eq (H := H), g_eq (H := H), e_eq (H := H), Option.bind_some, Option.bind_some, Option.bind_some, wr (A a0 a2 a8 a6 a7 + G a0 a2 a8) (by omega), wr (2 * (A a0 a2 a8 a6 a7 + G a0 a2 a8)) (by omega), wr _ (by omega)]
theorem leastCap_eq : plan_look_leastCap.f a0 a1 a2 a3 a4 a5 a6 a7 a8 a9 a10 a11 a12 a13 a14 a15 = some (A a0 a2 a8 a6 a7 + 2 * G a0 a2 a8 + 2 * E a6 a7) := by
  unfold plan_look_leastCap.f
  have c := gb (n := a0) (s := a2) (r := a8) (by omega) (by omega) (by omega)
  have e1 : E a6 a7 = a7 - a6 + 6 := rfl
  have e2 : A a0 a2 a8 a6 a7 = 2 * (E a6 a7 + G a0 a2 a8) := rfl
  rw [a_eq (H := H), g_eq (H := H), e_eq (H := H), Option.bind_some, Option.bind_some, Option.bind_some, wr (2 * G a0 a2 a8) (by omega), wr (2 * E a6 a7) (by omega), wr (A a0 a2 a8 a6 a7 + 2 * G a0 a2 a8) (by omega), wr _ (by omega)]
theorem leastWindow_eq (hp : 0 ≤ a9 ∧ a9 ≤ 8589934592) : plan_look_leastWindow.f a0 a1 a2 a3 a4 a5 a6 a7 a8 a9 a10 a11 a12 a13 a14 a15 = some (a9 + E a6 a7) := by
  unfold plan_look_leastWindow.f
  have e1 : E a6 a7 = a7 - a6 + 6 := rfl
  rw [e_eq (H := H), Option.bind_some, wr _ (by omega)]
omit H in
theorem leastOff_eq (hp : 0 ≤ a9 ∧ a9 ≤ 8589934592) (hw : 0 ≤ a4 ∧ a4 ≤ 8589934592) (hc : 0 ≤ a10 ∧ a10 ≤ 8589934592) : plan_look_leastOff.f a0 a1 a2 a3 a4 a5 a6 a7 a8 a9 a10 a11 a12 a13 a14 a15 = some (a4 + a10 + a9) := by
  unfold plan_look_leastOff.f
  rw [wr (a4 + a10) (by omega), wr _ (by omega)]
theorem leastSlot_eq (hp : 0 ≤ a9 ∧ a9 ≤ 8589934592) (hw : 0 ≤ a4 ∧ a4 ≤ 8589934592) (hc : 0 ≤ a10 ∧ a10 ≤ 8589934592) (hs : 0 ≤ a3 ∧ a3 ≤ 34359738368) : plan_look_leastSlot.f a0 a1 a2 a3 a4 a5 a6 a7 a8 a9 a10 a11 a12 a13 a14 a15 = some (a3 + a4 + 2 * (a7 + a5) + a10 + a9 + 8) := by
  unfold plan_look_leastSlot.f
  rw [wr (a3 + a4) (by omega), wr (a7 + a5) (by omega), wr (2 * (a7 + a5)) (by omega), wr (a3 + a4 + 2 * (a7 + a5)) (by omega), wr (a3 + a4 + 2 * (a7 + a5) + a10) (by omega), wr (a3 + a4 + 2 * (a7 + a5) + a10 + a9) (by omega), wr _ (by omega)]
end
/-- In how many rounds a queue is sent. -/
def Q (q b : Int) : Int := (q + b - 1) / b
theorem qb {q b p : Int} (h : C9 q b p) : 1 ≤ Q q b ∧ Q q b ≤ 64 ∧ (q / b * b < q → q / b + 1 = Q q b) ∧ (¬ q / b * b < q → q / b = Q q b) ∧ 0 ≤ q / b ∧ q / b ≤ 64 ∧ 0 ≤ q / b * b ∧ q / b * b ≤ 64 := by
  unfold Q
  have : b = 1 ∨ b = 2 ∨ b = 3 ∨ b = 4 ∨ b = 5 ∨ b = 6 ∨ b = 7 ∨ b = 8 := by omega
  rcases this with rfl | rfl | rfl | rfl | rfl | rfl | rfl | rfl <;> omega
theorem mb {x r : Int} (hx : 0 ≤ x ∧ x ≤ 67) (hr : 4 ≤ r ∧ r ≤ 16777216) : 0 ≤ x * r ∧ x * r ≤ 1124073472 := by
  have a := Int.mul_nonneg hx.1 (show 0 ≤ r by omega)
  have b := Int.mul_le_mul hx.2 hr.2 (by omega) (by omega)
  omega
theorem leastDelta_eq (a0 a1 a2 a3 a4 a5 a6 a7 a8 a9 a10 a11 a12 a13 a14 a15 : Int) (H : KN a0 a1 a2 a5 a6 a7 a8) (hp : 0 ≤ a9 ∧ a9 ≤ 8589934592) (h9 : C9 a12 a13 a14) : plan_look_leastDelta.f a0 a1 a2 a3 a4 a5 a6 a7 a8 a9 a10 a11 a12 a13 a14 a15 = some ((Q a12 a13 + 3) * (a0 * a2) + 2 * a9) := by
  unfold plan_look_leastDelta.f
  have b := rb (n := a0) (s := a2) (by omega) (by omega)
  have q := qb h9
  have m := mb (x := Q a12 a13 + 3) (r := a0 * a2) (by omega) b
  have z : (a12 + a13 - 1) / a13 = Q a12 a13 := rfl
  rw [if_neg (by omega), round_eq (H := H), Option.bind_some, wr (a12 + a13) (by omega), wr (a12 + a13 - 1) (by omega), tdiv_eq (by omega), z, wr (Q a12 a13) (by omega), wr (Q a12 a13 + 3) (by omega), wr ((Q a12 a13 + 3) * (a0 * a2)) (by omega), wr (2 * a9) (by omega), wr _ (by omega)]
/-- The condition that a plan fails. -/
def FS (a0 a1 a2 a3 a4 a5 a6 a7 a8 a9 a10 a11 a12 a13 a14 a15 : Int) : Int :=
  if ¬ C1 a0 a1 then 1 else if ¬ C2 a5 a6 a7 then 2 else if ¬ C3 a2 a8 then 3
  else if ¬ UP (2 * (A a0 a2 a8 a6 a7 + G a0 a2 a8) + E a6 a7) a9 then 4 else if ¬ UP (a9 + E a6 a7) a4 then 5
  else if ¬ UP (A a0 a2 a8 a6 a7 + 2 * G a0 a2 a8 + 2 * E a6 a7) a10 then 6 else if ¬ UP (a4 + a10 + a9) a3 then 7
  else if ¬ a3 + a4 + 2 * (a7 + a5) + a10 + a9 + 8 ≤ a2 then 8 else if ¬ C9 a12 a13 a14 then 9
  else if ¬ ((Q a12 a13 + 3) * (a0 * a2) + 2 * a9 ≤ a11 ∧ a11 ≤ 64 * (a0 * a2)) then 10
  else if ¬ (40 * (a0 * a2) ≤ a15 ∧ a15 ≤ 2147483648) then 11 else 0
theorem ite_nn {p : Prop} [Decidable p] {x y : Int} (hx : 0 ≤ x) (hy : 0 ≤ y) : 0 ≤ if p then x else y := by split <;> assumption
theorem NN {p : Prop} (h : p) : ¬ ¬ p := fun x => x h
theorem NF : ¬ (false = true) := by decide
theorem fs_nonneg (a0 a1 a2 a3 a4 a5 a6 a7 a8 a9 a10 a11 a12 a13 a14 a15 : Int) : 0 ≤ FS a0 a1 a2 a3 a4 a5 a6 a7 a8 a9 a10 a11 a12 a13 a14 a15 := by
  unfold FS
  exact ite_nn (by decide) (ite_nn (by decide) (ite_nn (by decide) (ite_nn (by decide) (ite_nn (by decide) (ite_nn (by decide) (ite_nn (by decide) (ite_nn (by decide) (ite_nn (by decide) (ite_nn (by decide) (ite_nn (by decide) (by decide)))))))))))
theorem go_neg {α : Type} (x : Option α) (f : Bool → Option α) : ((some false).bind fun t => if (!t) = true then x else f t) = x := rfl
theorem go_pos {α : Type} (x : Option α) (f : Bool → Option α) : ((some true).bind fun t => if (!t) = true then x else f t) = f true := rfl
theorem fails_eq (a0 a1 a2 a3 a4 a5 a6 a7 a8 a9 a10 a11 a12 a13 a14 a15 : Int) : plan_Fails.f a0 a1 a2 a3 a4 a5 a6 a7 a8 a9 a10 a11 a12 a13 a14 a15 = some (FS a0 a1 a2 a3 a4 a5 a6 a7 a8 a9 a10 a11 a12 a13 a14 a15) := by
  unfold plan_Fails.f FS
  rw [nodes_eq]
  by_cases h1 : C1 a0 a1
  · rw [decide_eq_true h1, go_pos, if_neg (fun h => h h1), air_eq]
    by_cases h2 : C2 a5 a6 a7
    · rw [decide_eq_true h2, go_pos, if_neg (fun h => h h2), slot_eq]
      by_cases h3 : C3 a2 a8
      · have H : KN a0 a1 a2 a5 a6 a7 a8 := ⟨h1, h2, h3⟩
        have b := rb (n := a0) (s := a2) (by omega) (by omega)
        have c := gb (n := a0) (s := a2) (r := a8) (by omega) (by omega) (by omega)
        have e1 : E a6 a7 = a7 - a6 + 6 := rfl
        have e2 : A a0 a2 a8 a6 a7 = 2 * (E a6 a7 + G a0 a2 a8) := rfl
        rw [decide_eq_true h3, go_pos, if_neg (fun h => h h3)]
        rw [show plan_look_pi.f a0 a1 a2 a3 a4 a5 a6 a7 a8 a9 a10 a11 a12 a13 a14 a15 = some (decide (UP (2 * (A a0 a2 a8 a6 a7 + G a0 a2 a8) + E a6 a7) a9)) from by unfold plan_look_pi.f; rw [leastPi_eq (H := H), Option.bind_some, in_eq]; rfl]
        by_cases h4 : UP (2 * (A a0 a2 a8 a6 a7 + G a0 a2 a8) + E a6 a7) a9
        · rw [decide_eq_true h4, go_pos, if_neg (fun h => h h4)]
          rw [show plan_look_window.f a0 a1 a2 a3 a4 a5 a6 a7 a8 a9 a10 a11 a12 a13 a14 a15 = some (decide (UP (a9 + E a6 a7) a4)) from by unfold plan_look_window.f; rw [leastWindow_eq (H := H) (hp := by omega), Option.bind_some, in_eq]; rfl]
          by_cases h5 : UP (a9 + E a6 a7) a4
          · rw [decide_eq_true h5, go_pos, if_neg (fun h => h h5)]
            rw [show plan_look_limit.f a0 a1 a2 a3 a4 a5 a6 a7 a8 a9 a10 a11 a12 a13 a14 a15 = some (decide (UP (A a0 a2 a8 a6 a7 + 2 * G a0 a2 a8 + 2 * E a6 a7) a10)) from by unfold plan_look_limit.f; rw [leastCap_eq (H := H), Option.bind_some, in_eq]; rfl]
            by_cases h6 : UP (A a0 a2 a8 a6 a7 + 2 * G a0 a2 a8 + 2 * E a6 a7) a10
            · rw [decide_eq_true h6, go_pos, if_neg (fun h => h h6)]
              rw [show plan_look_sends.f a0 a1 a2 a3 a4 a5 a6 a7 a8 a9 a10 a11 a12 a13 a14 a15 = some (decide (UP (a4 + a10 + a9) a3)) from by unfold plan_look_sends.f; rw [leastOff_eq (hp := by omega) (hw := by omega) (hc := by omega), Option.bind_some, in_eq]; rfl]
              by_cases h7 : UP (a4 + a10 + a9) a3
              · rw [decide_eq_true h7, go_pos, if_neg (fun h => h h7)]
                rw [show plan_look_fits.f a0 a1 a2 a3 a4 a5 a6 a7 a8 a9 a10 a11 a12 a13 a14 a15 = some (decide (a3 + a4 + 2 * (a7 + a5) + a10 + a9 + 8 ≤ a2)) from by unfold plan_look_fits.f; rw [leastSlot_eq (H := H) (hp := by omega) (hw := by omega) (hc := by omega) (hs := by omega), Option.bind_some]]
                by_cases h8 : a3 + a4 + 2 * (a7 + a5) + a10 + a9 + 8 ≤ a2
                · rw [decide_eq_true h8, go_pos, if_neg (fun h => h h8), queue_eq]
                  by_cases h9 : C9 a12 a13 a14
                  · rw [decide_eq_true h9, go_pos, if_neg (fun h => h h9)]
                    rw [show plan_look_delta.f a0 a1 a2 a3 a4 a5 a6 a7 a8 a9 a10 a11 a12 a13 a14 a15 = some (decide ((Q a12 a13 + 3) * (a0 * a2) + 2 * a9 ≤ a11 ∧ a11 ≤ 64 * (a0 * a2))) from by unfold plan_look_delta.f; rw [leastDelta_eq (H := H) (hp := by omega) (h9 := h9), Option.bind_some, round_eq (H := H), Option.bind_some, wr (64 * (a0 * a2)) (by omega), in_eq]; rfl]
                    by_cases h10 : (Q a12 a13 + 3) * (a0 * a2) + 2 * a9 ≤ a11 ∧ a11 ≤ 64 * (a0 * a2)
                    · rw [decide_eq_true h10, go_pos, if_neg (fun h => h h10)]
                      rw [show plan_look_horizon.f a0 a1 a2 a3 a4 a5 a6 a7 a8 a9 a10 a11 a12 a13 a14 a15 = some (decide (40 * (a0 * a2) ≤ a15 ∧ a15 ≤ 2147483648)) from by unfold plan_look_horizon.f; rw [round_eq (H := H), Option.bind_some, wr (40 * (a0 * a2)) (by omega), in_eq]; rfl]
                      by_cases h11 : 40 * (a0 * a2) ≤ a15 ∧ a15 ≤ 2147483648
                      · rw [decide_eq_true h11, go_pos, if_neg (fun h => h h11)]
                      · rw [decide_eq_false h11, go_neg, if_pos h11]
                    · rw [decide_eq_false h10, go_neg, if_pos h10]
                  · rw [decide_eq_false h9, go_neg, if_pos h9]
                · rw [decide_eq_false h8, go_neg, if_pos h8]
              · rw [decide_eq_false h7, go_neg, if_pos h7]
            · rw [decide_eq_false h6, go_neg, if_pos h6]
          · rw [decide_eq_false h5, go_neg, if_pos h5]
        · rw [decide_eq_false h4, go_neg, if_pos h4]
      · rw [decide_eq_false h3, go_neg, if_pos h3]
    · rw [decide_eq_false h2, go_neg, if_pos h2]
  · rw [decide_eq_false h1, go_neg, if_pos h1]
/-- A plan that fails none. -/
theorem fs_zero (a0 a1 a2 a3 a4 a5 a6 a7 a8 a9 a10 a11 a12 a13 a14 a15 : Int) (h : FS a0 a1 a2 a3 a4 a5 a6 a7 a8 a9 a10 a11 a12 a13 a14 a15 = 0) : KN a0 a1 a2 a5 a6 a7 a8 ∧ UP (2 * (A a0 a2 a8 a6 a7 + G a0 a2 a8) + E a6 a7) a9 ∧ UP (a9 + E a6 a7) a4 ∧ UP (A a0 a2 a8 a6 a7 + 2 * G a0 a2 a8 + 2 * E a6 a7) a10 ∧ UP (a4 + a10 + a9) a3
    ∧ a3 + a4 + 2 * (a7 + a5) + a10 + a9 + 8 ≤ a2 ∧ C9 a12 a13 a14 ∧ ((Q a12 a13 + 3) * (a0 * a2) + 2 * a9 ≤ a11 ∧ a11 ≤ 64 * (a0 * a2)) ∧ (40 * (a0 * a2) ≤ a15 ∧ a15 ≤ 2147483648) := by
  unfold FS at h
  by_cases h1 : C1 a0 a1
  · rw [if_neg (fun x => x h1)] at h
    by_cases h2 : C2 a5 a6 a7
    · rw [if_neg (fun x => x h2)] at h
      by_cases h3 : C3 a2 a8
      · rw [if_neg (fun x => x h3)] at h
        by_cases h4 : UP (2 * (A a0 a2 a8 a6 a7 + G a0 a2 a8) + E a6 a7) a9
        · rw [if_neg (fun x => x h4)] at h
          by_cases h5 : UP (a9 + E a6 a7) a4
          · rw [if_neg (fun x => x h5)] at h
            by_cases h6 : UP (A a0 a2 a8 a6 a7 + 2 * G a0 a2 a8 + 2 * E a6 a7) a10
            · rw [if_neg (fun x => x h6)] at h
              by_cases h7 : UP (a4 + a10 + a9) a3
              · rw [if_neg (fun x => x h7)] at h
                by_cases h8 : a3 + a4 + 2 * (a7 + a5) + a10 + a9 + 8 ≤ a2
                · rw [if_neg (fun x => x h8)] at h
                  by_cases h9 : C9 a12 a13 a14
                  · rw [if_neg (fun x => x h9)] at h
                    by_cases h10 : (Q a12 a13 + 3) * (a0 * a2) + 2 * a9 ≤ a11 ∧ a11 ≤ 64 * (a0 * a2)
                    · rw [if_neg (fun x => x h10)] at h
                      by_cases h11 : 40 * (a0 * a2) ≤ a15 ∧ a15 ≤ 2147483648
                      · exact ⟨⟨h1, h2, h3⟩, h4, h5, h6, h7, h8, h9, h10, h11⟩
                      · rw [if_pos h11] at h; exact absurd h (by decide)
                    · rw [if_pos h10] at h; exact absurd h (by decide)
                  · rw [if_pos h9] at h; exact absurd h (by decide)
                · rw [if_pos h8] at h; exact absurd h (by decide)
              · rw [if_pos h7] at h; exact absurd h (by decide)
            · rw [if_pos h6] at h; exact absurd h (by decide)
          · rw [if_pos h5] at h; exact absurd h (by decide)
        · rw [if_pos h4] at h; exact absurd h (by decide)
      · rw [if_pos h3] at h; exact absurd h (by decide)
    · rw [if_pos h2] at h; exact absurd h (by decide)
  · rw [if_pos h1] at h; exact absurd h (by decide)
theorem pround_eq (a0 a1 a2 a3 a4 a5 a6 a7 a8 a9 a10 a11 a12 a13 a14 a15 : Int) : plan_Round.f a0 a1 a2 a3 a4 a5 a6 a7 a8 a9 a10 a11 a12 a13 a14 a15 = some (if KN a0 a1 a2 a5 a6 a7 a8 then a0 * a2 else 0) := by
  unfold plan_Round.f
  rw [known_eq, Option.bind_some]
  by_cases H : KN a0 a1 a2 a5 a6 a7 a8
  · rw [decide_eq_true H, if_pos rfl, if_pos H, round_eq (H := H)]; rfl
  · rw [decide_eq_false H, if_neg (by decide), if_neg H]
theorem check_eq (a0 a1 a2 a3 a4 a5 a6 a7 a8 a9 a10 a11 a12 a13 a14 a15 : Int) : plan_Check.f a0 a1 a2 a3 a4 a5 a6 a7 a8 a9 a10 a11 a12 a13 a14 a15 = some (if FS a0 a1 a2 a3 a4 a5 a6 a7 a8 a9 a10 a11 a12 a13 a14 a15 = 0 then 0 else 70) := by
  unfold plan_Check.f
  rw [fails_eq, Option.bind_some]
  by_cases h : FS a0 a1 a2 a3 a4 a5 a6 a7 a8 a9 a10 a11 a12 a13 a14 a15 = 0
  · rw [if_neg (fun x => x h), if_pos h]
  · rw [if_pos h, if_neg h]
theorem nb {r n s : Int} (hr : 0 ≤ r ∧ r ≤ 2147483647) (hn : 4 ≤ n ∧ n ≤ 16) (hs : 0 ≤ s ∧ s < n) : 0 ≤ r * n ∧ r * n ≤ 34359738352 ∧ 0 ≤ r * n + s ∧ r * n + s ≤ 34359738367 := by
  have a := Int.mul_nonneg hr.1 (show 0 ≤ n by omega)
  have b := Int.mul_le_mul hr.2 hn.2 (by omega) (by omega)
  have c : r * n ≤ 2147483647 * n := Int.mul_le_mul_of_nonneg_right hr.2 (by omega)
  omega
theorem mbb {m a : Int} (hm : 0 ≤ m ∧ m ≤ 34359738368) (ha : 1 ≤ a ∧ a ≤ 1048576) : 0 ≤ m * a ∧ m * a ≤ 36028797018963968 := by
  have x := Int.mul_nonneg hm.1 (show 0 ≤ a by omega)
  have y := Int.mul_le_mul hm.2 ha.2 (by omega) (by omega)
  omega
section
variable (a0 a1 a2 a3 a4 a5 a6 a7 a8 a9 a10 a11 a12 a13 a14 a15 : Int)
/-- What a plan that may be has. -/
theorem may_all (h : FS a0 a1 a2 a3 a4 a5 a6 a7 a8 a9 a10 a11 a12 a13 a14 a15 = 0) : 4 ≤ a0 ∧ a0 ≤ 16 ∧ 1 ≤ a2 ∧ a2 ≤ 1048576 ∧ 0 ≤ a6 ∧ a6 ≤ a7 ∧ a7 ≤ 1048576 ∧ 8 ≤ a9 ∧ a9 ≤ 1048576 ∧ a9 + (a7 - a6 + 6) ≤ a4 ∧ a4 ≤ 1048576 ∧ 8 ≤ a10 ∧ a10 ≤ 1048576 ∧ a4 + a10 + a9 ≤ a3 ∧ a3 ≤ 1048576
    ∧ a3 + a4 + 2 * (a7 + a5) + a10 + a9 + 8 ≤ a2 ∧ 1 ≤ a5 ∧ KN a0 a1 a2 a5 a6 a7 a8 := by
  obtain ⟨H, g4, g5, g6, g7, g8, g9, g10, g11⟩ := fs_zero (h := h)
  have c := gb (n := a0) (s := a2) (r := a8) (by omega) (by omega) (by omega)
  have e1 : E a6 a7 = a7 - a6 + 6 := rfl
  have e2 : A a0 a2 a8 a6 a7 = 2 * (E a6 a7 + G a0 a2 a8) := rfl
  exact ⟨by omega, by omega, by omega, by omega, by omega, by omega, by omega, by omega, by omega, by omega, by omega, by omega, by omega, by omega, by omega, by omega, by omega, H⟩
theorem pround_ok (h : FS a0 a1 a2 a3 a4 a5 a6 a7 a8 a9 a10 a11 a12 a13 a14 a15 = 0) : plan_Round.f a0 a1 a2 a3 a4 a5 a6 a7 a8 a9 a10 a11 a12 a13 a14 a15 = some (a0 * a2) := by
  have m := may_all (h := h)
  rw [pround_eq, if_pos (by omega)]
end
theorem mulb {x y X Y : Int} (hx : 0 ≤ x ∧ x ≤ X) (hy : 0 ≤ y ∧ y ≤ Y) : 0 ≤ x * y ∧ x * y ≤ X * Y :=
  ⟨Int.mul_nonneg hx.1 hy.1, Int.mul_le_mul hx.2 hy.2 hy.1 (by omega)⟩
theorem divb {x y X : Int} (hx : 0 ≤ x ∧ x ≤ X) (hy : 1 ≤ y) : 0 ≤ x / y ∧ x / y ≤ X :=
  ⟨Int.ediv_nonneg hx.1 (by omega), Int.le_trans (Int.ediv_le_self _ hx.1) hx.2⟩
/-- Upward. -/
def UD (x y : Int) : Int := (x + y - 1) / y
theorem ud_le {x y z : Int} (hy : 1 ≤ y) (h : x ≤ z * y) : UD x y ≤ z := by
  unfold UD
  have : (x + y - 1) / y < z + 1 := Int.ediv_lt_of_lt_mul (by omega) (by rw [Int.add_mul]; omega)
  omega
theorem ud_ge {x y : Int} (hy : 1 ≤ y) : x ≤ UD x y * y := by
  unfold UD
  have a := Int.lt_ediv_add_one_mul_self (x + y - 1) (show 0 < y by omega)
  rw [Int.add_mul] at a
  omega
theorem ud_lt {x y : Int} (hy : 1 ≤ y) : UD x y * y ≤ x + y - 1 := by
  unfold UD
  exact Int.ediv_mul_le _ (by omega)
theorem ud_nonneg {x y : Int} (hx : 0 ≤ x) (hy : 1 ≤ y) : 0 ≤ UD x y := by
  unfold UD
  exact Int.ediv_nonneg (by omega) (by omega)
theorem ud_self {x y X : Int} (hx : 0 ≤ x ∧ x ≤ X) (hy : 1 ≤ y) : 0 ≤ UD x y ∧ UD x y ≤ X := by
  refine ⟨ud_nonneg hx.1 hy, Int.le_trans (ud_le (z := x) hy ?_) hx.2⟩
  have := Int.mul_le_mul_of_nonneg_left hy hx.1
  omega
theorem ud_mono {x z y : Int} (h : x ≤ z) (hy : 1 ≤ y) : UD x y ≤ UD z y := by
  unfold UD
  exact Int.ediv_le_ediv (by omega) (by omega)
theorem ud_down {x y : Int} (hy : 1 ≤ y) : x / y ≤ UD x y := by
  unfold UD
  exact Int.ediv_le_ediv (by omega) (by omega)
abbrev RHO (p : Int) : Prop := 4 ≤ p ∧ p ≤ 1048576
abbrev TIM (t : Int) : Prop := 0 ≤ t ∧ t ≤ 4294967297
def GL (p t : Int) : Int := if t * (p - 1) / p - 1 > 0 then t * (p - 1) / p - 1 else 0
def GH (p t : Int) : Int := UD (t * (p + 1)) p + 1
def PRE (t : Int) : Int := if t - 1 > 0 then t - 1 else 0
def RL (p t : Int) : Int := PRE t * p / (p + 1)
def RH (p t : Int) : Int := UD ((t + 1) * p) (p - 1)
def STEP (p x : Int) : Int := if RL p x > 1 then RL p x else 1
def TU (p x t : Int) : Int := t / STEP p x + 1
theorem step_pos {p x : Int} : 1 ≤ STEP p x := by unfold STEP; split <;> omega
theorem pre_b {t : Int} (ht : TIM t) : TIM (PRE t) := by unfold PRE; split <;> omega
theorem tu_b {p x t : Int} (ht : TIM t) : 1 ≤ TU p x t ∧ TU p x t ≤ 4294967298 := by
  have := divb ht (step_pos (p := p) (x := x))
  unfold TU
  omega
theorem gl_b {p t : Int} (hp : RHO p) (ht : TIM t) : 0 ≤ GL p t ∧ GL p t ≤ 4503599627370496 := by
  have a := mulb ht (y := p - 1) (Y := 1048575) (by omega)
  have b := divb (y := p) a (by omega)
  unfold GL
  split <;> omega
theorem gh_b {p t : Int} (hp : RHO p) (ht : TIM t) : 1 ≤ GH p t ∧ GH p t ≤ 4503603923386370 := by
  have a := mulb ht (y := p + 1) (Y := 1048577) (by omega)
  have b := ud_self (y := p) a (by omega)
  unfold GH
  omega
theorem rl_b {p t : Int} (hp : RHO p) (ht : TIM t) : 0 ≤ RL p t ∧ RL p t ≤ PRE t := by
  have h := pre_b ht
  unfold RL
  refine ⟨Int.ediv_nonneg (Int.mul_nonneg h.1 (by omega)) (by omega), ?_⟩
  have : PRE t * p / (p + 1) < PRE t + 1 := Int.ediv_lt_of_lt_mul (by omega) (by rw [Int.add_mul, Int.mul_add]; omega)
  omega
theorem rh_b {p t : Int} (hp : RHO p) (ht : TIM t) : 0 ≤ RH p t ∧ RH p t ≤ 2 * (t + 1) := by
  unfold RH
  refine ⟨ud_nonneg (Int.mul_nonneg (by omega) (by omega)) (by omega), ud_le (by omega) ?_⟩
  rw [Int.mul_comm 2, Int.mul_assoc]
  exact Int.mul_le_mul_of_nonneg_left (by omega) (by omega)
theorem down_eq {x y : Int} (hx : 0 ≤ x ∧ x ≤ 1152921504606846976) (hy : 1 ≤ y) : bounds_down_int64.f x y = some (x / y) := by
  have := divb hx hy
  unfold bounds_down_int64.f
  rw [if_neg (by omega), tdiv_eq hx.1, wr _ (by omega)]
theorem up_eq {x y : Int} (hx : 0 ≤ x ∧ x ≤ 1152921504606846976) (hy : 1 ≤ y ∧ y ≤ 1152921504606846976) : bounds_up_int64.f x y = some (UD x y) := by
  have := ud_self hx hy.1
  unfold bounds_up_int64.f
  rw [if_neg (by omega), wr (x + y) (by omega), wr (x + y - 1) (by omega), tdiv_eq (by omega), wr]
  · rfl
  · exact (show -9223372036854775808 ≤ UD x y ∧ UD x y ≤ 9223372036854775807 by omega)
theorem goes_eq {p t : Int} (hp : RHO p) (ht : TIM t) : bounds_drift_goes.f p t = some (GL p t, GH p t) := by
  have a := mulb ht (y := p - 1) (Y := 1048575) (by omega)
  have a' := mulb ht (y := p + 1) (Y := 1048577) (by omega)
  have b := divb (y := p) a (by omega)
  have c := gh_b hp ht
  unfold bounds_drift_goes.f
  rw [wr (p - 1) (by omega), wr (p + 1) (by omega), wr (t * (p - 1)) (by omega), wr (t * (p + 1)) (by omega), down_eq (by omega) (by omega), up_eq (by omega) (by omega), Option.bind_some, Option.bind_some, wr (t * (p - 1) / p - 1) (by omega), wr (UD (t * (p + 1)) p + 1) (by unfold GH at c; omega)]
  rfl
theorem real_eq {p t : Int} (hp : RHO p) (ht : TIM t) : bounds_drift_real.f p t = some (RL p t, RH p t) := by
  have h := pre_b ht
  have a := mulb h (y := p) (Y := 1048576) (by omega)
  have a' := mulb (x := t + 1) (X := 4294967298) (by omega) (y := p) (Y := 1048576) (by omega)
  unfold bounds_drift_real.f
  have e : (if t - 1 > 0 then t - 1 else 0) = PRE t := rfl
  rw [wr (t - 1) (by omega), e, wr (PRE t * p) (by omega), wr (p + 1) (by omega), wr (t + 1) (by omega), wr ((t + 1) * p) (by omega), wr (p - 1) (by omega), down_eq (by omega) (by omega), up_eq (by omega) (by omega), Option.bind_some, Option.bind_some]
  rfl
theorem turns_eq {p r c t : Int} (hp : RHO p) (hr : 0 ≤ r ∧ r ≤ 16777216) (hc : 0 ≤ c ∧ c ≤ r) (ht : TIM t) : bounds_of_turns.f p r c t = some (TU p (r - c) t) := by
  have b := tu_b (p := p) (x := r - c) ht
  unfold bounds_of_turns.f
  rw [wr (r - c) (by omega), real_eq hp (by omega), Option.bind_some]
  have e : (if (RL p (r - c), RH p (r - c)).fst > 1 then (RL p (r - c), RH p (r - c)).fst else 1) = STEP p (r - c) := rfl
  rw [e, down_eq (by omega) step_pos, Option.bind_some, wr _ (by unfold TU at b; omega)]
  rfl
theorem envelope_eq {p r c t : Int} (hp : RHO p) (hr : 0 ≤ r ∧ r ≤ 16777216) (hc : 0 ≤ c ∧ c ≤ r) (ht : TIM t) : bounds_of_envelope.f p r c t = some (GL p t - c * TU p (r - c) t, GH p t + c * TU p (r - c) t) := by
  have b := tu_b (p := p) (x := r - c) ht
  have g := gl_b hp ht
  have g' := gh_b hp ht
  have m := mulb (x := c) (X := 16777216) (by omega) (y := TU p (r - c) t) (Y := 4294967298) (by omega)
  unfold bounds_of_envelope.f
  rw [goes_eq hp ht, turns_eq hp hr hc ht, Option.bind_some, Option.bind_some]
  dsimp only
  rw [wr (c * TU p (r - c) t) (by omega), wr (GL p t - _) (by omega), wr _ (by omega)]
section
variable (a0 a1 a2 a3 a4 a5 a6 a7 a8 a9 a10 a11 a12 a13 a14 a15 : Int)
theorem rb_cap (h : FS a0 a1 a2 a3 a4 a5 a6 a7 a8 a9 a10 a11 a12 a13 a14 a15 = 0) : RHO a8 ∧ (0 ≤ a0 * a2 ∧ a0 * a2 ≤ 16777216) ∧ (0 ≤ a10 ∧ a10 ≤ a0 * a2) := by
  have m := may_all (h := h)
  have b := rb (n := a0) (s := a2) (by omega) (by omega)
  have q := Int.mul_le_mul_of_nonneg_right (show 1 ≤ a0 by omega) (show 0 ≤ a2 by omega)
  omega
variable (t : Int)
abbrev BOK (a0 a1 a2 a3 a4 a5 a6 a7 a8 a9 a10 a11 a12 a13 a14 a15 : Int) (t : Int) : Prop := FS a0 a1 a2 a3 a4 a5 a6 a7 a8 a9 a10 a11 a12 a13 a14 a15 = 0 ∧ 0 ≤ t ∧ t ≤ 4294967296
theorem bnumber_ok (h : BOK a0 a1 a2 a3 a4 a5 a6 a7 a8 a9 a10 a11 a12 a13 a14 a15 t) : bounds_number.f a0 a1 a2 a3 a4 a5 a6 a7 a8 a9 a10 a11 a12 a13 a14 a15 t = some (a8, a0 * a2, a10, true) := by
  unfold bounds_number.f
  rw [check_eq, if_pos h.1, Option.bind_some, if_neg (by decide), if_neg (by omega), if_neg (by omega), pround_ok (h := h.1)]
  rfl
theorem bnumber_no (h : ¬ BOK a0 a1 a2 a3 a4 a5 a6 a7 a8 a9 a10 a11 a12 a13 a14 a15 t) : bounds_number.f a0 a1 a2 a3 a4 a5 a6 a7 a8 a9 a10 a11 a12 a13 a14 a15 t = some (0, 0, 0, false) := by
  unfold bounds_number.f
  rw [check_eq, Option.bind_some]
  by_cases f : FS a0 a1 a2 a3 a4 a5 a6 a7 a8 a9 a10 a11 a12 a13 a14 a15 = 0
  · rw [if_pos f, if_neg (by decide)]
    by_cases g : t < 0
    · rw [if_pos g]
    · rw [if_neg g, if_pos (by omega)]
  · rw [if_neg f, if_pos (by decide)]
theorem Goes_ok (h : BOK a0 a1 a2 a3 a4 a5 a6 a7 a8 a9 a10 a11 a12 a13 a14 a15 t) : bounds_Goes.f a0 a1 a2 a3 a4 a5 a6 a7 a8 a9 a10 a11 a12 a13 a14 a15 t = some (GL a8 t, GH a8 t, 0) := by
  have m := rb_cap (h := h.1)
  unfold bounds_Goes.f
  rw [bnumber_ok (h := h), Option.bind_some]
  dsimp only
  rw [if_neg (by decide)]
  rw [goes_eq m.1 (by omega)]
  rfl
theorem Goes_no (h : ¬ BOK a0 a1 a2 a3 a4 a5 a6 a7 a8 a9 a10 a11 a12 a13 a14 a15 t) : bounds_Goes.f a0 a1 a2 a3 a4 a5 a6 a7 a8 a9 a10 a11 a12 a13 a14 a15 t = some (0, 0, 290) := by
  unfold bounds_Goes.f
  rw [bnumber_no (h := h)]
  rfl
theorem Real_ok (h : BOK a0 a1 a2 a3 a4 a5 a6 a7 a8 a9 a10 a11 a12 a13 a14 a15 t) : bounds_Real.f a0 a1 a2 a3 a4 a5 a6 a7 a8 a9 a10 a11 a12 a13 a14 a15 t = some (RL a8 t, RH a8 t, 0) := by
  have m := rb_cap (h := h.1)
  unfold bounds_Real.f
  rw [bnumber_ok (h := h), Option.bind_some]
  dsimp only
  rw [if_neg (by decide)]
  rw [real_eq m.1 (by omega)]
  rfl
theorem Real_no (h : ¬ BOK a0 a1 a2 a3 a4 a5 a6 a7 a8 a9 a10 a11 a12 a13 a14 a15 t) : bounds_Real.f a0 a1 a2 a3 a4 a5 a6 a7 a8 a9 a10 a11 a12 a13 a14 a15 t = some (0, 0, 290) := by
  unfold bounds_Real.f
  rw [bnumber_no (h := h)]
  rfl
theorem Turns_ok (h : BOK a0 a1 a2 a3 a4 a5 a6 a7 a8 a9 a10 a11 a12 a13 a14 a15 t) : bounds_Turns.f a0 a1 a2 a3 a4 a5 a6 a7 a8 a9 a10 a11 a12 a13 a14 a15 t = some (TU a8 (a0 * a2 - a10) t, 0) := by
  have m := rb_cap (h := h.1)
  unfold bounds_Turns.f
  rw [bnumber_ok (h := h), Option.bind_some]
  dsimp only
  rw [if_neg (by decide)]
  rw [turns_eq m.1 (by omega) (by omega) (by omega)]
  rfl
theorem Turns_no (h : ¬ BOK a0 a1 a2 a3 a4 a5 a6 a7 a8 a9 a10 a11 a12 a13 a14 a15 t) : bounds_Turns.f a0 a1 a2 a3 a4 a5 a6 a7 a8 a9 a10 a11 a12 a13 a14 a15 t = some (0, 290) := by
  unfold bounds_Turns.f
  rw [bnumber_no (h := h)]
  rfl
theorem Envelope_ok (h : BOK a0 a1 a2 a3 a4 a5 a6 a7 a8 a9 a10 a11 a12 a13 a14 a15 t) : bounds_Envelope.f a0 a1 a2 a3 a4 a5 a6 a7 a8 a9 a10 a11 a12 a13 a14 a15 t = some (GL a8 t - a10 * TU a8 (a0 * a2 - a10) t, GH a8 t + a10 * TU a8 (a0 * a2 - a10) t, 0) := by
  have m := rb_cap (h := h.1)
  unfold bounds_Envelope.f
  rw [bnumber_ok (h := h), Option.bind_some]
  dsimp only
  rw [if_neg (by decide)]
  rw [envelope_eq m.1 (by omega) (by omega) (by omega)]
  rfl
theorem Envelope_no (h : ¬ BOK a0 a1 a2 a3 a4 a5 a6 a7 a8 a9 a10 a11 a12 a13 a14 a15 t) : bounds_Envelope.f a0 a1 a2 a3 a4 a5 a6 a7 a8 a9 a10 a11 a12 a13 a14 a15 t = some (0, 0, 290) := by
  unfold bounds_Envelope.f
  rw [bnumber_no (h := h)]
  rfl
theorem Few_ok (h : FS a0 a1 a2 a3 a4 a5 a6 a7 a8 a9 a10 a11 a12 a13 a14 a15 = 0) : bounds_Few.f a0 a1 a2 a3 a4 a5 a6 a7 a8 a9 a10 a11 a12 a13 a14 a15 = some (2 * a1 + 2, 0) := by
  have m := may_all (h := h)
  unfold bounds_Few.f
  rw [check_eq, if_pos h, Option.bind_some, if_neg (by decide), wr (2 * a1) (by omega), wr _ (by omega)]
theorem Few_no (h : ¬ FS a0 a1 a2 a3 a4 a5 a6 a7 a8 a9 a10 a11 a12 a13 a14 a15 = 0) : bounds_Few.f a0 a1 a2 a3 a4 a5 a6 a7 a8 a9 a10 a11 a12 a13 a14 a15 = some (0, 290) := by
  unfold bounds_Few.f
  rw [check_eq, if_neg h]
  rfl
end
theorem uw {x : Int} (h : 0 ≤ x ∧ x ≤ 4294967295) : IntKind.u32.wrap x = x := by
  simp [IntKind.wrap, IntKind.bits, IntKind.signed]
  omega
theorem rate_ok {n a : Int} (hn : 1 ≤ n ∧ n ≤ 131072) (ha : -4294967296 ≤ a ∧ a ≤ 4294967296) : rate_Check.f n 65536 0 a = some 0 := by
  unfold rate_Check.f
  rw [if_pos (by decide), if_neg (by decide), if_pos (by omega), wr (2 * 65536) (by decide), decide_eq_true (show n ≤ 2 * 65536 by omega), if_neg (by decide), if_pos (by decide), if_neg (by decide), if_pos (by omega), decide_eq_true ha.2, if_neg (by decide)]
theorem reads_ok {n a t : Int} (hn : 1 ≤ n ∧ n ≤ 131072) (ha : -4294967296 ≤ a ∧ a ≤ 4294967296) (ht : 0 ≤ t ∧ t ≤ 4294967296) : rate_Reads.f n 65536 0 a t = some (n * t / 65536 + a, 0) := by
  have m := mulb (x := n) (X := 131072) (by omega) ht
  have d := divb (y := 65536) m (by decide)
  unfold rate_Reads.f rate_clock_gone.f
  rw [rate_ok hn ha, Option.bind_some, if_neg (by decide), if_neg (by omega), if_neg (by omega), wr (t - 0) (by omega), Int.sub_zero, if_neg (by decide), wr (n * t) (by omega), tdiv_eq (by omega), wr (n * t / 65536) (by omega), Option.bind_some, wr _ (by omega)]
theorem keeps_ok {n w r : Int} (hr : RHO r) (hw : w = 65536 / r) (hn : 65536 - w ≤ n ∧ n ≤ 65536 + w) : rate_Keeps.f n 65536 r = some 0 := by
  have a : w * r ≤ 65536 := by rw [hw]; exact Int.ediv_mul_le _ (by omega)
  have b : 0 ≤ w ∧ w ≤ 16384 := by
    have := Int.ediv_nonneg (a := 65536) (b := r) (by decide) (by omega)
    have : w * 4 ≤ w * r := Int.mul_le_mul_of_nonneg_left hr.1 (by omega)
    omega
  have c : ∀ x : Int, 0 ≤ x → x ≤ w → 0 ≤ r * x ∧ r * x ≤ 65536 := fun x h0 h1 => by
    have q := Int.mul_le_mul_of_nonneg_right h1 (show 0 ≤ r by omega)
    rw [Int.mul_comm r x]
    exact ⟨Int.mul_nonneg h0 (by omega), by omega⟩
  unfold rate_Keeps.f
  rw [rate_ok (by omega) (by omega), Option.bind_some, if_neg (by decide), if_neg (by omega), if_neg (by omega)]
  by_cases h : n = 65536
  · rw [decide_eq_true h, if_neg (by decide)]
  · rw [decide_eq_false h, if_pos (by decide), wr (n - 65536) (by omega), wr (0 - (n - 65536)) (by omega)]
    by_cases g : 0 - (n - 65536) > n - 65536
    · have := c (0 - (n - 65536)) (by omega) (by omega)
      rw [if_pos g, wr _ (by omega), if_neg (by omega)]
    · have := c (n - 65536) (by omega) (by omega)
      rw [if_neg g, wr _ (by omega), if_neg (by omega)]
/-- How far such a clock goes on. -/
theorem drift {n r t u w : Int} (hr : RHO r) (hw : w = 65536 / r) (hn : 65536 - w ≤ n ∧ n ≤ 65536 + w) (ht : 0 ≤ t) (htu : t ≤ u) :
    0 ≤ n * u / 65536 - n * t / 65536 ∧ (r - 1) * (u - t) < r * (n * u / 65536 - n * t / 65536 + 1) ∧ r * (n * u / 65536 - n * t / 65536) < (r + 1) * (u - t) + r := by
  have a : w * r ≤ 65536 := by rw [hw]; exact Int.ediv_mul_le _ (by omega)
  have b : 0 ≤ w ∧ w ≤ 16384 := by
    have := Int.ediv_nonneg (a := 65536) (b := r) (by decide) (by omega)
    have : w * 4 ≤ w * r := Int.mul_le_mul_of_nonneg_left hr.1 (by omega)
    omega
  have m0 : n * t ≤ n * u := Int.mul_le_mul_of_nonneg_left htu (by omega)
  have mono : n * t / 65536 ≤ n * u / 65536 := Int.ediv_le_ediv (by decide) m0
  have k : 65536 * (n * u / 65536 - n * t / 65536) < n * (u - t) + 65536 ∧ n * (u - t) - 65536 < 65536 * (n * u / 65536 - n * t / 65536) := by
    rw [Int.mul_sub n]
    omega
  have hT : 0 ≤ u - t := by omega
  have hD : 0 ≤ n * u / 65536 - n * t / 65536 := by omega
  generalize n * u / 65536 - n * t / 65536 = D at *
  generalize u - t = T at *
  have n1 : 65536 * (r - 1) ≤ n * r := by
    have q := Int.mul_le_mul_of_nonneg_right hn.1 (show 0 ≤ r by omega)
    rw [Int.sub_mul] at q
    omega
  have n2 : n * r ≤ 65536 * (r + 1) := by
    have q := Int.mul_le_mul_of_nonneg_right hn.2 (show 0 ≤ r by omega)
    rw [Int.add_mul] at q
    omega
  have t1 : 65536 * (r - 1) * T ≤ n * r * T := Int.mul_le_mul_of_nonneg_right n1 hT
  have t2 : n * r * T ≤ 65536 * (r + 1) * T := Int.mul_le_mul_of_nonneg_right n2 hT
  have e : n * r * T = r * (n * T) := by rw [Int.mul_comm n r, Int.mul_assoc]
  have d1 : r * (65536 * D) < r * (n * T + 65536) := Int.mul_lt_mul_of_pos_left k.1 (by omega)
  have d2 : r * (n * T - 65536) < r * (65536 * D) := Int.mul_lt_mul_of_pos_left k.2 (by omega)
  rw [Int.mul_add] at d1
  rw [Int.mul_sub] at d2
  have f1 : r * (65536 * D) = 65536 * (r * D) := by rw [← Int.mul_assoc, Int.mul_comm r, Int.mul_assoc]
  rw [Int.mul_assoc 65536] at t1 t2
  refine ⟨by omega, ?_, ?_⟩
  · rw [Int.mul_add]
    omega
  · omega
theorem gl_drift {r D T : Int} (hr : RHO r) (h0 : 0 ≤ D) (h : (r - 1) * T < r * (D + 1)) : GL r T ≤ D := by
  have : T * (r - 1) / r < D + 1 := Int.ediv_lt_of_lt_mul (by omega) (by rw [Int.mul_comm T, Int.mul_comm (D + 1)]; exact h)
  unfold GL
  split <;> omega
theorem gh_drift {r D T : Int} (hr : RHO r) (h : r * D < (r + 1) * T + r) : D ≤ GH r T := by
  have a : T * (r + 1) ≤ UD (T * (r + 1)) r * r := ud_ge (by omega)
  rw [Int.mul_comm T] at a
  have b : D * r < (UD ((r + 1) * T) r + 1) * r := by rw [Int.add_mul, Int.mul_comm D]; omega
  have := Int.lt_of_mul_lt_mul_right b (by omega)
  unfold GH
  rw [Int.mul_comm T]
  omega
theorem rl_drift {r D T : Int} (hr : RHO r) (hT : 0 ≤ T) (h : r * D < (r + 1) * T + r) : RL r D ≤ T := by
  have : PRE D * r < (T + 1) * (r + 1) := by
    have e : (T + 1) * (r + 1) = (r + 1) * T + (r + 1) := by rw [Int.add_mul, Int.mul_comm T]; omega
    have z := Int.mul_nonneg (show 0 ≤ r + 1 by omega) hT
    rw [e]
    unfold PRE
    split
    · rw [Int.sub_mul, Int.mul_comm D]; omega
    · rw [Int.zero_mul]; omega
  have : PRE D * r / (r + 1) < T + 1 := Int.ediv_lt_of_lt_mul (by omega) this
  unfold RL
  omega
theorem rh_drift {r D T : Int} (hr : RHO r) (h : (r - 1) * T < r * (D + 1)) : T ≤ RH r D := by
  have a : (D + 1) * r ≤ RH r D * (r - 1) := ud_ge (by omega)
  have b : T * (r - 1) < RH r D * (r - 1) := by rw [Int.mul_comm T]; rw [Int.mul_comm (D + 1)] at a; omega
  have := Int.lt_of_mul_lt_mul_right b (by omega)
  omega
theorem u16_b {x : Int} (h : (Lit.int .u16 x).wf = true) : 0 ≤ x ∧ x ≤ 65535 := by
  have a : IntKind.u16.min = 0 := rfl
  have b : IntKind.u16.max = 65535 := rfl
  simp [Lit.wf] at h
  omega
/-- How far a clock of n parts of 65536 goes. -/
def GN (n u : Int) : Int := n * u / 65536
theorem GN_zero (n : Int) : GN n 0 = 0 := by simp [GN]
theorem GN_mono {n u v : Int} (hn : 0 ≤ n) (h : u ≤ v) : GN n u ≤ GN n v := Int.ediv_le_ediv (by decide) (Int.mul_le_mul_of_nonneg_left h hn)
theorem GN_b {n u : Int} (hn : 1 ≤ n ∧ n ≤ 131072) (hu : 0 ≤ u ∧ u ≤ 4294967296) : 0 ≤ GN n u ∧ GN n u ≤ 8589934592 := by
  have m := mulb (x := n) (X := 131072) (by omega) hu
  unfold GN
  omega
theorem ck_ok {n o a : Int} (hn : 1 ≤ n ∧ n ≤ 131072) (ho : 0 ≤ o ∧ o ≤ 4294967296) (ha : -4294967296 ≤ a ∧ a ≤ 4294967296) : rate_Check.f n 65536 o a = some 0 := by
  unfold rate_Check.f
  rw [if_pos (by decide), if_neg (by decide), if_pos (by omega), wr (2 * 65536) (by decide), decide_eq_true (show n ≤ 2 * 65536 by omega), if_neg (by decide), if_pos (by omega), decide_eq_true ho.2, if_neg (by decide), if_pos (by omega), decide_eq_true ha.2, if_neg (by decide)]
theorem ck_no {n o a : Int} (hn : 1 ≤ n ∧ n ≤ 131072) (ho : 0 ≤ o ∧ o ≤ 4294967296) (ha : ¬ (-4294967296 ≤ a ∧ a ≤ 4294967296)) : rate_Check.f n 65536 o a = some 60 := by
  unfold rate_Check.f
  rw [if_pos (by decide), if_neg (by decide), if_pos (by omega), wr (2 * 65536) (by decide), decide_eq_true (show n ≤ 2 * 65536 by omega), if_neg (by decide), if_pos (by omega), decide_eq_true ho.2, if_neg (by decide)]
  by_cases h : a ≥ -4294967296
  · rw [if_pos h, decide_eq_false (show ¬ a ≤ 4294967296 by omega), if_pos (by decide)]
  · rw [if_neg h]
theorem reads2 {n o a t : Int} (hn : 1 ≤ n ∧ n ≤ 131072) (ho : 0 ≤ o ∧ o ≤ 4294967296) (ha : -4294967296 ≤ a ∧ a ≤ 4294967296) (ht : o ≤ t ∧ t ≤ 4294967296) : rate_Reads.f n 65536 o a t = some (GN n (t - o) + a, 0) := by
  have g := GN_b (n := n) (u := t - o) hn (by omega)
  have m := mulb (x := n) (X := 131072) (by omega) (y := t - o) (Y := 4294967296) (by omega)
  unfold GN at g ⊢
  unfold rate_Reads.f rate_clock_gone.f
  rw [ck_ok hn ho ha, Option.bind_some, if_neg (by decide), if_neg (by omega), if_neg (by omega), wr (t - o) (by omega), if_neg (by decide), wr (n * (t - o)) (by omega), tdiv_eq (by omega), wr (n * (t - o) / 65536) (by omega), Option.bind_some, wr _ (by omega)]
theorem when2 {n o a x : Int} (hn : 1 ≤ n ∧ n ≤ 131072) (ho : 0 ≤ o ∧ o ≤ 65535) (ha : -4294967296 ≤ a ∧ a ≤ 4294967296) (hx : -1125899906842624 ≤ x ∧ x ≤ 1125899906842624) :
    ∃ t e, rate_When.f n 65536 o a x = some (t, e) ∧ (e ≠ 0 ∨ (e = 0 ∧ ∃ u, t = o + u ∧ 0 ≤ u ∧ u ≤ 4503599627370496 ∧ x - a ≤ GN n u)) := by
  have g := GN_b (n := n) (u := 4294967296 - o) hn (by omega)
  unfold rate_When.f
  rw [ck_ok hn (by omega) ha, Option.bind_some, if_neg (by decide), reads2 hn (by omega) ha (t := 4294967296) (by omega), Option.bind_some]
  dsimp only
  by_cases h1 : x > GN n (4294967296 - o) + a
  · rw [if_pos h1]
    exact ⟨0, 61, rfl, .inl (by decide)⟩
  · rw [if_neg h1]
    by_cases h2 : x ≤ a
    · rw [if_pos h2]
      exact ⟨o, 0, rfl, .inr ⟨rfl, 0, by omega, by omega, by omega, by rw [GN_zero]; omega⟩⟩
    · rw [if_neg h2]
      unfold rate_clock_ticks.f
      rw [if_neg (by omega), wr (x - a) (by omega), wr ((x - a) * 65536) (by omega), wr ((x - a) * 65536 + n) (by omega), wr ((x - a) * 65536 + n - 1) (by omega), tdiv_eq (by omega)]
      have q0 : 0 ≤ ((x - a) * 65536 + n - 1) / n := Int.ediv_nonneg (by omega) (by omega)
      have q1 : ((x - a) * 65536 + n - 1) / n ≤ (x - a) * 65536 + n - 1 := Int.ediv_le_self _ (by omega)
      have q2 := Int.mul_ediv_add_emod ((x - a) * 65536 + n - 1) n
      have q3 := Int.emod_lt_of_pos ((x - a) * 65536 + n - 1) (show 0 < n by omega)
      generalize ((x - a) * 65536 + n - 1) / n = u at *
      rw [wr u (by omega), Option.bind_some, wr (o + u) (by omega)]
      refine ⟨o + u, 0, rfl, .inr ⟨rfl, u, rfl, q0, by omega, ?_⟩⟩
      unfold GN
      rw [Int.le_ediv_iff_mul_le (by decide)]
      omega
theorem set2 {n o a b : Int} (hn : 1 ≤ n ∧ n ≤ 131072) (ho : 0 ≤ o ∧ o ≤ 65535) (ha : -4294967296 ≤ a ∧ a ≤ 4294967296) (hb : -16777216 ≤ b ∧ b ≤ 16777216) :
    ∃ r, rate_Set.f n 65536 o a b = some r ∧ (r.2.2.2.2 ≠ 0 ∨ (r = (n, 65536, o, a + b, 0) ∧ -4294967296 ≤ a + b ∧ a + b ≤ 4294967296)) := by
  unfold rate_Set.f
  rw [ck_ok hn (by omega) ha, Option.bind_some, if_neg (by decide), if_neg (by omega), if_neg (by omega), wr (a + b) (by omega)]
  by_cases h : -4294967296 ≤ a + b ∧ a + b ≤ 4294967296
  · rw [ck_ok hn (by omega) h, Option.bind_some, if_neg (by decide)]
    exact ⟨_, rfl, .inr ⟨rfl, h⟩⟩
  · rw [ck_no hn (by omega) h, Option.bind_some, if_pos (by decide)]
    exact ⟨_, rfl, .inl (by decide)⟩
theorem rl_mono {p x y : Int} (hp : RHO p) (h : x ≤ y) : RL p x ≤ RL p y := by
  have : PRE x ≤ PRE y := by unfold PRE; split <;> split <;> omega
  unfold RL
  exact Int.ediv_le_ediv (by omega) (Int.mul_le_mul_of_nonneg_right this (by omega))
theorem rl_one {p x : Int} (hp : RHO p) (h : 24 ≤ x) : 1 ≤ RL p x := by
  unfold RL PRE
  rw [if_pos (by omega), Int.le_ediv_iff_mul_le (by omega)]
  have := Int.mul_le_mul_of_nonneg_right (show 23 ≤ x - 1 by omega) (show 0 ≤ p by omega)
  omega
theorem step_rl {p x : Int} (h : 1 ≤ RL p x) : STEP p x = RL p x := by unfold STEP; split <;> omega
/-- A round's rest, from the time on at which the clock has to read so much. -/
def rest (x : vesperslaw29_BoundsSet.X0) (nx : Int) : Option (vesperslaw29_BoundsSet.X0 ⊕ (vesperslaw29_BoundsSet.X0 ⊕ vesperslaw29_BoundsSet.Y0)) :=
  ((rate_When.f x.snd.snd.snd.snd.snd.snd.snd.snd.snd.snd.snd.snd.snd.snd.snd.snd.snd.snd.snd.snd.snd.snd.snd.snd.fst x.snd.snd.snd.snd.snd.snd.snd.snd.snd.snd.snd.snd.snd.snd.snd.snd.snd.snd.snd.snd.snd.snd.snd.snd.snd.fst x.snd.snd.snd.snd.snd.snd.snd.snd.snd.snd.snd.snd.snd.snd.snd.snd.snd.snd.snd.snd.snd.snd.snd.snd.snd.snd.fst x.snd.snd.snd.snd.snd.snd.snd.snd.snd.snd.snd.snd.snd.snd.snd.snd.snd.snd.snd.snd.snd.snd.snd.snd.snd.snd.snd nx).bind fun t1 => (if t1.snd ≠ 0 then some (Sum.inr (Sum.inl (x.fst, x.snd.fst, x.snd.snd.fst, x.snd.snd.snd.fst, x.snd.snd.snd.snd.fst, x.snd.snd.snd.snd.snd.fst, x.snd.snd.snd.snd.snd.snd.fst, x.snd.snd.snd.snd.snd.snd.snd.fst, x.snd.snd.snd.snd.snd.snd.snd.snd.fst, x.snd.snd.snd.snd.snd.snd.snd.snd.snd.fst, x.snd.snd.snd.snd.snd.snd.snd.snd.snd.snd.fst, x.snd.snd.snd.snd.snd.snd.snd.snd.snd.snd.snd.fst, x.snd.snd.snd.snd.snd.snd.snd.snd.snd.snd.snd.snd.fst, x.snd.snd.snd.snd.snd.snd.snd.snd.snd.snd.snd.snd.snd.fst, x.snd.snd.snd.snd.snd.snd.snd.snd.snd.snd.snd.snd.snd.snd.fst, x.snd.snd.snd.snd.snd.snd.snd.snd.snd.snd.snd.snd.snd.snd.snd.fst, x.snd.snd.snd.snd.snd.snd.snd.snd.snd.snd.snd.snd.snd.snd.snd.snd.fst, x.snd.snd.snd.snd.snd.snd.snd.snd.snd.snd.snd.snd.snd.snd.snd.snd.snd.fst, x.snd.snd.snd.snd.snd.snd.snd.snd.snd.snd.snd.snd.snd.snd.snd.snd.snd.snd.fst, x.snd.snd.snd.snd.snd.snd.snd.snd.snd.snd.snd.snd.snd.snd.snd.snd.snd.snd.snd.fst, x.snd.snd.snd.snd.snd.snd.snd.snd.snd.snd.snd.snd.snd.snd.snd.snd.snd.snd.snd.snd.fst, x.snd.snd.snd.snd.snd.snd.snd.snd.snd.snd.snd.snd.snd.snd.snd.snd.snd.snd.snd.snd.snd.fst, x.snd.snd.snd.snd.snd.snd.snd.snd.snd.snd.snd.snd.snd.snd.snd.snd.snd.snd.snd.snd.snd.snd.fst, x.snd.snd.snd.snd.snd.snd.snd.snd.snd.snd.snd.snd.snd.snd.snd.snd.snd.snd.snd.snd.snd.snd.snd.fst, x.snd.snd.snd.snd.snd.snd.snd.snd.snd.snd.snd.snd.snd.snd.snd.snd.snd.snd.snd.snd.snd.snd.snd.snd.fst, x.snd.snd.snd.snd.snd.snd.snd.snd.snd.snd.snd.snd.snd.snd.snd.snd.snd.snd.snd.snd.snd.snd.snd.snd.snd.fst, x.snd.snd.snd.snd.snd.snd.snd.snd.snd.snd.snd.snd.snd.snd.snd.snd.snd.snd.snd.snd.snd.snd.snd.snd.snd.snd.fst, x.snd.snd.snd.snd.snd.snd.snd.snd.snd.snd.snd.snd.snd.snd.snd.snd.snd.snd.snd.snd.snd.snd.snd.snd.snd.snd.snd))) else (if wrap64 (t1.fst - x.snd.snd.snd.snd.snd.snd.snd.snd.snd.snd.snd.snd.snd.snd.snd.snd.snd.snd.snd.snd.snd.snd.snd.snd.snd.snd.fst) > 2147483648 then some (Sum.inr (Sum.inl (x.fst, x.snd.fst, x.snd.snd.fst, x.snd.snd.snd.fst, x.snd.snd.snd.snd.fst, x.snd.snd.snd.snd.snd.fst, x.snd.snd.snd.snd.snd.snd.fst, x.snd.snd.snd.snd.snd.snd.snd.fst, x.snd.snd.snd.snd.snd.snd.snd.snd.fst, x.snd.snd.snd.snd.snd.snd.snd.snd.snd.fst, x.snd.snd.snd.snd.snd.snd.snd.snd.snd.snd.fst, x.snd.snd.snd.snd.snd.snd.snd.snd.snd.snd.snd.fst, x.snd.snd.snd.snd.snd.snd.snd.snd.snd.snd.snd.snd.fst, x.snd.snd.snd.snd.snd.snd.snd.snd.snd.snd.snd.snd.snd.fst, x.snd.snd.snd.snd.snd.snd.snd.snd.snd.snd.snd.snd.snd.snd.fst, x.snd.snd.snd.snd.snd.snd.snd.snd.snd.snd.snd.snd.snd.snd.snd.fst, x.snd.snd.snd.snd.snd.snd.snd.snd.snd.snd.snd.snd.snd.snd.snd.snd.fst, x.snd.snd.snd.snd.snd.snd.snd.snd.snd.snd.snd.snd.snd.snd.snd.snd.snd.fst, x.snd.snd.snd.snd.snd.snd.snd.snd.snd.snd.snd.snd.snd.snd.snd.snd.snd.snd.fst, x.snd.snd.snd.snd.snd.snd.snd.snd.snd.snd.snd.snd.snd.snd.snd.snd.snd.snd.snd.fst, x.snd.snd.snd.snd.snd.snd.snd.snd.snd.snd.snd.snd.snd.snd.snd.snd.snd.snd.snd.snd.fst, x.snd.snd.snd.snd.snd.snd.snd.snd.snd.snd.snd.snd.snd.snd.snd.snd.snd.snd.snd.snd.snd.fst, x.snd.snd.snd.snd.snd.snd.snd.snd.snd.snd.snd.snd.snd.snd.snd.snd.snd.snd.snd.snd.snd.snd.fst, x.snd.snd.snd.snd.snd.snd.snd.snd.snd.snd.snd.snd.snd.snd.snd.snd.snd.snd.snd.snd.snd.snd.snd.fst, x.snd.snd.snd.snd.snd.snd.snd.snd.snd.snd.snd.snd.snd.snd.snd.snd.snd.snd.snd.snd.snd.snd.snd.snd.fst, x.snd.snd.snd.snd.snd.snd.snd.snd.snd.snd.snd.snd.snd.snd.snd.snd.snd.snd.snd.snd.snd.snd.snd.snd.snd.fst, x.snd.snd.snd.snd.snd.snd.snd.snd.snd.snd.snd.snd.snd.snd.snd.snd.snd.snd.snd.snd.snd.snd.snd.snd.snd.snd.fst, x.snd.snd.snd.snd.snd.snd.snd.snd.snd.snd.snd.snd.snd.snd.snd.snd.snd.snd.snd.snd.snd.snd.snd.snd.snd.snd.snd))) else (if 0 ≤ x.snd.snd.snd.snd.snd.snd.snd.fst ∧ x.snd.snd.snd.snd.snd.snd.snd.fst < Int.ofNat x.fst.length then (if wrap64 (x.snd.snd.snd.snd.snd.snd.snd.snd.snd.snd.snd.snd.snd.snd.snd.snd.snd.snd.fst + 1) = 0 then none else ((rate_Set.f x.snd.snd.snd.snd.snd.snd.snd.snd.snd.snd.snd.snd.snd.snd.snd.snd.snd.snd.snd.snd.snd.snd.snd.snd.fst x.snd.snd.snd.snd.snd.snd.snd.snd.snd.snd.snd.snd.snd.snd.snd.snd.snd.snd.snd.snd.snd.snd.snd.snd.snd.fst x.snd.snd.snd.snd.snd.snd.snd.snd.snd.snd.snd.snd.snd.snd.snd.snd.snd.snd.snd.snd.snd.snd.snd.snd.snd.snd.fst x.snd.snd.snd.snd.snd.snd.snd.snd.snd.snd.snd.snd.snd.snd.snd.snd.snd.snd.snd.snd.snd.snd.snd.snd.snd.snd.snd ((x.fst.getD x.snd.snd.snd.snd.snd.snd.snd.fst.toNat 0).tmod (wrap64 (x.snd.snd.snd.snd.snd.snd.snd.snd.snd.snd.snd.snd.snd.snd.snd.snd.snd.snd.fst + 1)))).bind fun t2 => (if t2.snd.snd.snd.snd ≠ 0 then some (Sum.inr (Sum.inl (x.fst, x.snd.fst, x.snd.snd.fst, x.snd.snd.snd.fst, if t1.fst > x.snd.snd.snd.snd.fst then t1.fst else x.snd.snd.snd.snd.fst, x.snd.snd.snd.snd.snd.fst, x.snd.snd.snd.snd.snd.snd.fst, x.snd.snd.snd.snd.snd.snd.snd.fst, x.snd.snd.snd.snd.snd.snd.snd.snd.fst, x.snd.snd.snd.snd.snd.snd.snd.snd.snd.fst, x.snd.snd.snd.snd.snd.snd.snd.snd.snd.snd.fst, x.snd.snd.snd.snd.snd.snd.snd.snd.snd.snd.snd.fst, x.snd.snd.snd.snd.snd.snd.snd.snd.snd.snd.snd.snd.fst, x.snd.snd.snd.snd.snd.snd.snd.snd.snd.snd.snd.snd.snd.fst, x.snd.snd.snd.snd.snd.snd.snd.snd.snd.snd.snd.snd.snd.snd.fst, x.snd.snd.snd.snd.snd.snd.snd.snd.snd.snd.snd.snd.snd.snd.snd.fst, x.snd.snd.snd.snd.snd.snd.snd.snd.snd.snd.snd.snd.snd.snd.snd.snd.fst, x.snd.snd.snd.snd.snd.snd.snd.snd.snd.snd.snd.snd.snd.snd.snd.snd.snd.fst, x.snd.snd.snd.snd.snd.snd.snd.snd.snd.snd.snd.snd.snd.snd.snd.snd.snd.snd.fst, x.snd.snd.snd.snd.snd.snd.snd.snd.snd.snd.snd.snd.snd.snd.snd.snd.snd.snd.snd.fst, x.snd.snd.snd.snd.snd.snd.snd.snd.snd.snd.snd.snd.snd.snd.snd.snd.snd.snd.snd.snd.fst, x.snd.snd.snd.snd.snd.snd.snd.snd.snd.snd.snd.snd.snd.snd.snd.snd.snd.snd.snd.snd.snd.fst, x.snd.snd.snd.snd.snd.snd.snd.snd.snd.snd.snd.snd.snd.snd.snd.snd.snd.snd.snd.snd.snd.snd.fst, x.snd.snd.snd.snd.snd.snd.snd.snd.snd.snd.snd.snd.snd.snd.snd.snd.snd.snd.snd.snd.snd.snd.snd.fst, x.snd.snd.snd.snd.snd.snd.snd.snd.snd.snd.snd.snd.snd.snd.snd.snd.snd.snd.snd.snd.snd.snd.snd.snd.fst, x.snd.snd.snd.snd.snd.snd.snd.snd.snd.snd.snd.snd.snd.snd.snd.snd.snd.snd.snd.snd.snd.snd.snd.snd.snd.fst, x.snd.snd.snd.snd.snd.snd.snd.snd.snd.snd.snd.snd.snd.snd.snd.snd.snd.snd.snd.snd.snd.snd.snd.snd.snd.snd.fst, x.snd.snd.snd.snd.snd.snd.snd.snd.snd.snd.snd.snd.snd.snd.snd.snd.snd.snd.snd.snd.snd.snd.snd.snd.snd.snd.snd))) else ((rate_Reads.f t2.fst t2.snd.fst t2.snd.snd.fst t2.snd.snd.snd.fst (if t1.fst > x.snd.snd.snd.snd.fst then t1.fst else x.snd.snd.snd.snd.fst)).bind fun t3 => ((bounds_Envelope.f x.snd.snd.snd.snd.snd.snd.snd.snd.fst x.snd.snd.snd.snd.snd.snd.snd.snd.snd.fst x.snd.snd.snd.snd.snd.snd.snd.snd.snd.snd.fst x.snd.snd.snd.snd.snd.snd.snd.snd.snd.snd.snd.fst x.snd.snd.snd.snd.snd.snd.snd.snd.snd.snd.snd.snd.fst x.snd.snd.snd.snd.snd.snd.snd.snd.snd.snd.snd.snd.snd.fst x.snd.snd.snd.snd.snd.snd.snd.snd.snd.snd.snd.snd.snd.snd.fst x.snd.snd.snd.snd.snd.snd.snd.snd.snd.snd.snd.snd.snd.snd.snd.fst x.snd.snd.snd.snd.snd.snd.snd.snd.snd.snd.snd.snd.snd.snd.snd.snd.fst x.snd.snd.snd.snd.snd.snd.snd.snd.snd.snd.snd.snd.snd.snd.snd.snd.snd.fst x.snd.snd.snd.snd.snd.snd.snd.snd.snd.snd.snd.snd.snd.snd.snd.snd.snd.snd.fst x.snd.snd.snd.snd.snd.snd.snd.snd.snd.snd.snd.snd.snd.snd.snd.snd.snd.snd.snd.fst x.snd.snd.snd.snd.snd.snd.snd.snd.snd.snd.snd.snd.snd.snd.snd.snd.snd.snd.snd.snd.fst x.snd.snd.snd.snd.snd.snd.snd.snd.snd.snd.snd.snd.snd.snd.snd.snd.snd.snd.snd.snd.snd.fst x.snd.snd.snd.snd.snd.snd.snd.snd.snd.snd.snd.snd.snd.snd.snd.snd.snd.snd.snd.snd.snd.snd.fst x.snd.snd.snd.snd.snd.snd.snd.snd.snd.snd.snd.snd.snd.snd.snd.snd.snd.snd.snd.snd.snd.snd.snd.fst (wrap64 ((if t1.fst > x.snd.snd.snd.snd.fst then t1.fst else x.snd.snd.snd.snd.fst) - t2.snd.snd.fst))).bind fun t4 => (if t3.snd ≠ 0 then some (Sum.inr (Sum.inr ())) else (if t4.snd.snd ≠ 0 then some (Sum.inr (Sum.inr ())) else (if wrap64 (t3.fst - x.snd.snd.snd.fst) < t4.fst then some (Sum.inr (Sum.inr ())) else (if wrap64 (t3.fst - x.snd.snd.snd.fst) > t4.snd.fst then some (Sum.inr (Sum.inr ())) else some (Sum.inl (x.fst, x.snd.fst, x.snd.snd.fst, x.snd.snd.snd.fst, if t1.fst > x.snd.snd.snd.snd.fst then t1.fst else x.snd.snd.snd.snd.fst, t3.fst, x.snd.snd.snd.snd.snd.snd.fst, wrap64 (x.snd.snd.snd.snd.snd.snd.snd.fst + 1), x.snd.snd.snd.snd.snd.snd.snd.snd.fst, x.snd.snd.snd.snd.snd.snd.snd.snd.snd.fst, x.snd.snd.snd.snd.snd.snd.snd.snd.snd.snd.fst, x.snd.snd.snd.snd.snd.snd.snd.snd.snd.snd.snd.fst, x.snd.snd.snd.snd.snd.snd.snd.snd.snd.snd.snd.snd.fst, x.snd.snd.snd.snd.snd.snd.snd.snd.snd.snd.snd.snd.snd.fst, x.snd.snd.snd.snd.snd.snd.snd.snd.snd.snd.snd.snd.snd.snd.fst, x.snd.snd.snd.snd.snd.snd.snd.snd.snd.snd.snd.snd.snd.snd.snd.fst, x.snd.snd.snd.snd.snd.snd.snd.snd.snd.snd.snd.snd.snd.snd.snd.snd.fst, x.snd.snd.snd.snd.snd.snd.snd.snd.snd.snd.snd.snd.snd.snd.snd.snd.snd.fst, x.snd.snd.snd.snd.snd.snd.snd.snd.snd.snd.snd.snd.snd.snd.snd.snd.snd.snd.fst, x.snd.snd.snd.snd.snd.snd.snd.snd.snd.snd.snd.snd.snd.snd.snd.snd.snd.snd.snd.fst, x.snd.snd.snd.snd.snd.snd.snd.snd.snd.snd.snd.snd.snd.snd.snd.snd.snd.snd.snd.snd.fst, x.snd.snd.snd.snd.snd.snd.snd.snd.snd.snd.snd.snd.snd.snd.snd.snd.snd.snd.snd.snd.snd.fst, x.snd.snd.snd.snd.snd.snd.snd.snd.snd.snd.snd.snd.snd.snd.snd.snd.snd.snd.snd.snd.snd.snd.fst, x.snd.snd.snd.snd.snd.snd.snd.snd.snd.snd.snd.snd.snd.snd.snd.snd.snd.snd.snd.snd.snd.snd.snd.fst, t2.fst, t2.snd.fst, t2.snd.snd.fst, t2.snd.snd.snd.fst))))))))))) else none))))
theorem step_eq (x : vesperslaw29_BoundsSet.X0) : vesperslaw29_BoundsSet.step0 x = (if x.snd.snd.snd.snd.snd.snd.snd.fst < x.snd.snd.snd.snd.snd.snd.fst then ((plan_Round.f x.snd.snd.snd.snd.snd.snd.snd.snd.fst x.snd.snd.snd.snd.snd.snd.snd.snd.snd.fst x.snd.snd.snd.snd.snd.snd.snd.snd.snd.snd.fst x.snd.snd.snd.snd.snd.snd.snd.snd.snd.snd.snd.fst x.snd.snd.snd.snd.snd.snd.snd.snd.snd.snd.snd.snd.fst x.snd.snd.snd.snd.snd.snd.snd.snd.snd.snd.snd.snd.snd.fst x.snd.snd.snd.snd.snd.snd.snd.snd.snd.snd.snd.snd.snd.snd.fst x.snd.snd.snd.snd.snd.snd.snd.snd.snd.snd.snd.snd.snd.snd.snd.fst x.snd.snd.snd.snd.snd.snd.snd.snd.snd.snd.snd.snd.snd.snd.snd.snd.fst x.snd.snd.snd.snd.snd.snd.snd.snd.snd.snd.snd.snd.snd.snd.snd.snd.snd.fst x.snd.snd.snd.snd.snd.snd.snd.snd.snd.snd.snd.snd.snd.snd.snd.snd.snd.snd.fst x.snd.snd.snd.snd.snd.snd.snd.snd.snd.snd.snd.snd.snd.snd.snd.snd.snd.snd.snd.fst x.snd.snd.snd.snd.snd.snd.snd.snd.snd.snd.snd.snd.snd.snd.snd.snd.snd.snd.snd.snd.fst x.snd.snd.snd.snd.snd.snd.snd.snd.snd.snd.snd.snd.snd.snd.snd.snd.snd.snd.snd.snd.snd.fst x.snd.snd.snd.snd.snd.snd.snd.snd.snd.snd.snd.snd.snd.snd.snd.snd.snd.snd.snd.snd.snd.snd.fst x.snd.snd.snd.snd.snd.snd.snd.snd.snd.snd.snd.snd.snd.snd.snd.snd.snd.snd.snd.snd.snd.snd.snd.fst).bind fun t0 => (if x.snd.snd.snd.snd.snd.snd.snd.fst < Int.ofNat x.snd.fst.length then (if 0 ≤ x.snd.snd.snd.snd.snd.snd.snd.fst ∧ x.snd.snd.snd.snd.snd.snd.snd.fst < Int.ofNat x.snd.fst.length then rest x (wrap64 (wrap64 (wrap64 (x.snd.snd.snd.snd.snd.fst + t0) - x.snd.snd.snd.snd.snd.snd.snd.snd.snd.snd.snd.snd.snd.snd.snd.snd.snd.snd.fst) + wrap64 (x.snd.fst.getD x.snd.snd.snd.snd.snd.snd.snd.fst.toNat 0))) else none) else rest x (wrap64 (wrap64 (x.snd.snd.snd.snd.snd.fst + t0) - x.snd.snd.snd.snd.snd.snd.snd.snd.snd.snd.snd.snd.snd.snd.snd.snd.snd.snd.fst)))) else some (Sum.inr (Sum.inl (x.fst, x.snd.fst, x.snd.snd.fst, x.snd.snd.snd.fst, x.snd.snd.snd.snd.fst, x.snd.snd.snd.snd.snd.fst, x.snd.snd.snd.snd.snd.snd.fst, x.snd.snd.snd.snd.snd.snd.snd.fst, x.snd.snd.snd.snd.snd.snd.snd.snd.fst, x.snd.snd.snd.snd.snd.snd.snd.snd.snd.fst, x.snd.snd.snd.snd.snd.snd.snd.snd.snd.snd.fst, x.snd.snd.snd.snd.snd.snd.snd.snd.snd.snd.snd.fst, x.snd.snd.snd.snd.snd.snd.snd.snd.snd.snd.snd.snd.fst, x.snd.snd.snd.snd.snd.snd.snd.snd.snd.snd.snd.snd.snd.fst, x.snd.snd.snd.snd.snd.snd.snd.snd.snd.snd.snd.snd.snd.snd.fst, x.snd.snd.snd.snd.snd.snd.snd.snd.snd.snd.snd.snd.snd.snd.snd.fst, x.snd.snd.snd.snd.snd.snd.snd.snd.snd.snd.snd.snd.snd.snd.snd.snd.fst, x.snd.snd.snd.snd.snd.snd.snd.snd.snd.snd.snd.snd.snd.snd.snd.snd.snd.fst, x.snd.snd.snd.snd.snd.snd.snd.snd.snd.snd.snd.snd.snd.snd.snd.snd.snd.snd.fst, x.snd.snd.snd.snd.snd.snd.snd.snd.snd.snd.snd.snd.snd.snd.snd.snd.snd.snd.snd.fst, x.snd.snd.snd.snd.snd.snd.snd.snd.snd.snd.snd.snd.snd.snd.snd.snd.snd.snd.snd.snd.fst, x.snd.snd.snd.snd.snd.snd.snd.snd.snd.snd.snd.snd.snd.snd.snd.snd.snd.snd.snd.snd.snd.fst, x.snd.snd.snd.snd.snd.snd.snd.snd.snd.snd.snd.snd.snd.snd.snd.snd.snd.snd.snd.snd.snd.snd.fst, x.snd.snd.snd.snd.snd.snd.snd.snd.snd.snd.snd.snd.snd.snd.snd.snd.snd.snd.snd.snd.snd.snd.snd.fst, x.snd.snd.snd.snd.snd.snd.snd.snd.snd.snd.snd.snd.snd.snd.snd.snd.snd.snd.snd.snd.snd.snd.snd.snd.fst, x.snd.snd.snd.snd.snd.snd.snd.snd.snd.snd.snd.snd.snd.snd.snd.snd.snd.snd.snd.snd.snd.snd.snd.snd.snd.fst, x.snd.snd.snd.snd.snd.snd.snd.snd.snd.snd.snd.snd.snd.snd.snd.snd.snd.snd.snd.snd.snd.snd.snd.snd.snd.snd.fst, x.snd.snd.snd.snd.snd.snd.snd.snd.snd.snd.snd.snd.snd.snd.snd.snd.snd.snd.snd.snd.snd.snd.snd.snd.snd.snd.snd)))) := rfl
theorem rest_ok (a0 a1 a2 a3 a4 a5 a6 a7 a8 a9 a10 a11 a12 a13 a14 a15 : Int) (hF : FS a0 a1 a2 a3 a4 a5 a6 a7 a8 a9 a10 a11 a12 a13 a14 a15 = 0) {by_ later : List Int} {n o a T i nx l : Int} (hn : 65536 - 65536 / a8 ≤ n ∧ n ≤ 65536 + 65536 / a8) (ho : 0 ≤ o ∧ o ≤ 65535) (ha : -4294967296 ≤ a ∧ a ≤ 4294967296) (hT : 0 ≤ T ∧ T ≤ 2147483648)
    (hi : 0 ≤ i ∧ i < Int.ofNat by_.length ∧ Int.ofNat by_.length ≤ 50) (hkT : i * STEP a8 (a0 * a2 - a10) ≤ T) (hak : -(i * a10) ≤ a ∧ a ≤ i * a10) (hl : 0 ≤ l ∧ l ≤ 65535) (hnx : nx = GN n T + a + a0 * a2 - a10 + l) :
    (∃ z, rest (by_, later, true, 0, o + T, GN n T + a, Int.ofNat by_.length, i, a0, a1, a2, a3, a4, a5, a6, a7, a8, a9, a10, a11, a12, a13, a14, a15, n, 65536, o, a) nx = some (.inr (.inl z)) ∧ z.2.2.1 = true) ∨
    ∃ T' b, rest (by_, later, true, 0, o + T, GN n T + a, Int.ofNat by_.length, i, a0, a1, a2, a3, a4, a5, a6, a7, a8, a9, a10, a11, a12, a13, a14, a15, n, 65536, o, a) nx = some (.inl (by_, later, true, 0, o + T', GN n T' + b, Int.ofNat by_.length, i + 1, a0, a1, a2, a3, a4, a5, a6, a7, a8, a9, a10, a11, a12, a13, a14, a15, n, 65536, o, b)) ∧
      (-4294967296 ≤ b ∧ b ≤ 4294967296) ∧ (0 ≤ T' ∧ T' ≤ 2147483648) ∧ (i + 1) * STEP a8 (a0 * a2 - a10) ≤ T' ∧ (-((i + 1) * a10) ≤ b ∧ b ≤ (i + 1) * a10) := by
  have m := rb_cap (h := hF)
  have mm := may_all (h := hF)
  have hw : 65536 / a8 * 4 ≤ 65536 := by
    have q := Int.ediv_mul_le (65536 : Int) (show a8 ≠ 0 by omega)
    have q2 : 65536 / a8 * 4 ≤ 65536 / a8 * a8 := Int.mul_le_mul_of_nonneg_left m.1.1 (Int.ediv_nonneg (by decide) (by omega))
    omega
  have hn2 : 1 ≤ n ∧ n ≤ 131072 := by omega
  have gT := GN_b hn2 (u := T) (by omega)
  have hD : 24 ≤ a0 * a2 - a10 := by
    have q := Int.mul_le_mul_of_nonneg_right (show 4 ≤ a0 by omega) (show 0 ≤ a2 by omega)
    omega
  have hD2 : a0 * a2 - a10 ≤ 16777216 := by omega
  unfold rest
  dsimp only
  obtain ⟨t, e, hwh, hcase⟩ := when2 (n := n) (o := o) (a := a) (x := nx) hn2 ho ha (by omega)
  rw [hwh, Option.bind_some]
  rcases hcase with he | ⟨rfl, u, rfl, hu0, hu1, hge⟩
  · rw [if_pos he]
    exact .inl ⟨_, rfl, rfl⟩
  · dsimp only
    rw [if_neg (fun x => x rfl), wr (o + u - o) (by omega)]
    by_cases hu : o + u - o > 2147483648
    · rw [if_pos hu]
      exact .inl ⟨_, rfl, rfl⟩
    · rw [if_neg hu, if_pos ⟨hi.1, hi.2.1⟩, wr (a10 + 1) (by omega), if_neg (by omega)]
      have hb : -(a10 + 1) < (by_.getD i.toNat 0).tmod (a10 + 1) ∧ (by_.getD i.toNat 0).tmod (a10 + 1) < a10 + 1 := ⟨Int.lt_tmod_of_pos _ (by omega), Int.tmod_lt_of_pos _ (by omega)⟩
      generalize (by_.getD i.toNat 0).tmod (a10 + 1) = c at *
      obtain ⟨r, hset, hr⟩ := set2 (n := n) (o := o) (a := a) (b := c) hn2 ho ha (by omega)
      rw [hset, Option.bind_some]
      rcases hr with hr | ⟨rfl, hab⟩
      · rw [if_pos hr]
        exact .inl ⟨_, rfl, rfl⟩
      · dsimp only
        rw [if_neg (fun x => x rfl)]
        obtain ⟨T', hT', h1, h2, h3⟩ : ∃ T', (if o + u > o + T then o + u else o + T) = o + T' ∧ T ≤ T' ∧ u ≤ T' ∧ T' ≤ 2147483648 := by
          by_cases q : u > T
          · exact ⟨u, by rw [if_pos (by omega)], by omega, by omega, by omega⟩
          · exact ⟨T, by rw [if_neg (by omega)], by omega, by omega, by omega⟩
        have eo : o + T' - o = T' := by omega
        rw [hT', reads2 hn2 (by omega) hab (t := o + T') (by omega), Option.bind_some, eo, wr T' (by omega), Envelope_ok (h := ⟨hF, by omega, by omega⟩), Option.bind_some]
        dsimp only
        have g' := GN_b hn2 (u := T') (by omega)
        -- what it has gone
        have d0 := drift (n := n) (r := a8) (t := 0) (u := T') m.1 rfl hn (by omega) (by omega)
        rw [Int.mul_zero, Int.zero_ediv, Int.sub_zero, Int.sub_zero] at d0
        have l0 := gl_drift m.1 d0.1 d0.2.1
        have h0 := gh_drift m.1 d0.2.2
        have d1 := drift (n := n) (r := a8) (t := T) (u := T') m.1 rfl hn (by omega) h1
        have eG : n * T' / 65536 - n * T / 65536 = GN n T' - GN n T := rfl
        have eG2 : n * T' / 65536 = GN n T' := rfl
        rw [eG] at d1
        rw [eG2] at l0 h0
        have rl := rl_drift m.1 (by omega) d1.2.2
        have gm := GN_mono (n := n) (by omega) h2
        have rlm := rl_mono m.1 (show a0 * a2 - a10 ≤ GN n T' - GN n T by omega)
        have one := rl_one m.1 hD
        have st := step_rl one
        have e1 : (i + 1) * STEP a8 (a0 * a2 - a10) = i * STEP a8 (a0 * a2 - a10) + STEP a8 (a0 * a2 - a10) := by rw [Int.add_mul, Int.one_mul]
        have hk : (i + 1) * STEP a8 (a0 * a2 - a10) ≤ T' := by omega
        have tu : i + 1 ≤ TU a8 (a0 * a2 - a10) T' := by
          have : i + 1 ≤ T' / STEP a8 (a0 * a2 - a10) := (Int.le_ediv_iff_mul_le (by omega)).2 hk
          unfold TU
          omega
        have e2 : (i + 1) * a10 = i * a10 + a10 := by rw [Int.add_mul, Int.one_mul]
        have hc : (i + 1) * a10 ≤ a10 * TU a8 (a0 * a2 - a10) T' := by
          rw [Int.mul_comm]
          exact Int.mul_le_mul_of_nonneg_left tu (by omega)
        have w1 : wrap64 (GN n T' + (a + c) - 0) = GN n T' + (a + c) := by rw [Int.sub_zero]; exact wr _ (by omega)
        rw [w1, if_neg (fun x => x rfl), if_neg (fun x => x rfl), if_neg (by omega), if_neg (by omega), wr (i + 1) (by omega)]
        exact .inr ⟨T', a + c, rfl, hab, ⟨by omega, h3⟩, hk, by omega, by omega⟩
theorem loop_ok (a0 a1 a2 a3 a4 a5 a6 a7 a8 a9 a10 a11 a12 a13 a14 a15 : Int) (hF : FS a0 a1 a2 a3 a4 a5 a6 a7 a8 a9 a10 a11 a12 a13 a14 a15 = 0) {by_ later : List Int} {n o : Int} (hn : 65536 - 65536 / a8 ≤ n ∧ n ≤ 65536 + 65536 / a8) (ho : 0 ≤ o ∧ o ≤ 65535) (hlen : Int.ofNat by_.length ≤ 50) (hw : ∀ x ∈ later, (Lit.int .u16 x).wf = true) :
    ∀ (m : Nat) (i T a : Int), Int.ofNat by_.length - i = m → 0 ≤ i → (-4294967296 ≤ a ∧ a ≤ 4294967296) → (0 ≤ T ∧ T ≤ 2147483648) → i * STEP a8 (a0 * a2 - a10) ≤ T → (-(i * a10) ≤ a ∧ a ≤ i * a10) →
      ∃ z, rounds vesperslaw29_BoundsSet.step0 (by_, later, true, 0, o + T, GN n T + a, Int.ofNat by_.length, i, a0, a1, a2, a3, a4, a5, a6, a7, a8, a9, a10, a11, a12, a13, a14, a15, n, 65536, o, a) = some (.inl z) ∧ z.2.2.1 = true := by
  have m := rb_cap (h := hF)
  intro k
  induction k with
  | zero =>
    intro i T a hk hi ha hT hkT hak
    have hst : vesperslaw29_BoundsSet.step0 (by_, later, true, 0, o + T, GN n T + a, Int.ofNat by_.length, i, a0, a1, a2, a3, a4, a5, a6, a7, a8, a9, a10, a11, a12, a13, a14, a15, n, 65536, o, a) = some (.inr (.inl (by_, later, true, 0, o + T, GN n T + a, Int.ofNat by_.length, i, a0, a1, a2, a3, a4, a5, a6, a7, a8, a9, a10, a11, a12, a13, a14, a15, n, 65536, o, a))) := by
      rw [step_eq]
      dsimp only
      rw [if_neg (by omega)]
    exact ⟨_, rounds_end hst, rfl⟩
  | succ k ih =>
    intro i T a hk hi ha hT hkT hak
    have hw4 : 65536 / a8 * 4 ≤ 65536 := by
      have q := Int.ediv_mul_le (65536 : Int) (show a8 ≠ 0 by omega)
      have q2 : 65536 / a8 * 4 ≤ 65536 / a8 * a8 := Int.mul_le_mul_of_nonneg_left m.1.1 (Int.ediv_nonneg (by decide) (by omega))
      omega
    have gT := GN_b (n := n) (by omega) (u := T) (by omega)
    obtain ⟨nx, l, hl, hnx, hst⟩ : ∃ nx l, (0 ≤ l ∧ l ≤ 65535) ∧ nx = GN n T + a + a0 * a2 - a10 + l ∧ vesperslaw29_BoundsSet.step0 (by_, later, true, 0, o + T, GN n T + a, Int.ofNat by_.length, i, a0, a1, a2, a3, a4, a5, a6, a7, a8, a9, a10, a11, a12, a13, a14, a15, n, 65536, o, a) = rest (by_, later, true, 0, o + T, GN n T + a, Int.ofNat by_.length, i, a0, a1, a2, a3, a4, a5, a6, a7, a8, a9, a10, a11, a12, a13, a14, a15, n, 65536, o, a) nx := by
      rw [step_eq]
      dsimp only
      rw [if_pos (by omega), pround_ok (h := hF), Option.bind_some, wr (GN n T + a + a0 * a2) (by omega), wr (GN n T + a + a0 * a2 - a10) (by omega)]
      by_cases hj : i < Int.ofNat later.length
      · rw [if_pos hj, if_pos ⟨hi, hj⟩]
        have hj2 : i.toNat < later.length := by
          have : Int.ofNat later.length = (later.length : Int) := rfl
          omega
        have hel : later.getD i.toNat 0 ∈ later := by
          rw [List.getD_eq_getElem?_getD, List.getElem?_eq_getElem hj2]
          exact List.getElem_mem hj2
        have hb := u16_b (hw _ hel)
        exact ⟨_, later.getD i.toNat 0, hb, by rw [wr (later.getD i.toNat 0) (by omega), wr _ (by omega)], rfl⟩
      · rw [if_neg hj]
        exact ⟨_, 0, by omega, by omega, rfl⟩
    rcases rest_ok (hF := hF) (by_ := by_) (later := later) (i := i) (l := l) (hn := hn) (ho := ho) (ha := ha) (hT := hT) (hi := ⟨hi, by omega, hlen⟩) (hkT := hkT) (hak := hak) (hl := hl) (hnx := hnx) with ⟨z, hz, hz2⟩ | ⟨T', b, hz, hb, hT', hk', hbk⟩
    · exact ⟨z, rounds_end (hst.trans hz), hz2⟩
    · obtain ⟨z, hz2, hz3⟩ := ih (i + 1) T' b (by omega) (by omega) hb hT' hk' hbk
      exact ⟨z, (rounds_next (hst.trans hz)).trans hz2, hz3⟩
theorem proved : vesperslaw29_BoundsSet.Pure := by
  intro a0 a1 a2 a3 a4 a5 a6 a7 a8 a9 a10 a11 a12 a13 a14 a15 z by_ later on
  intro _ _ _ _ _ _ _ _ _ _ _ _ _ _ _ _ hz _ hw ho
  have hz := u32_b hz
  have ho := u16_b ho
  unfold vesperslaw29_BoundsSet.f
  rw [show vesperslaw29_alive.f = some true from rfl, check_eq]
  by_cases h : FS a0 a1 a2 a3 a4 a5 a6 a7 a8 a9 a10 a11 a12 a13 a14 a15 = 0
  · have m := rb_cap (h := h)
    have hw2 : 0 ≤ 65536 / a8 ∧ 65536 / a8 ≤ 65536 := divb (by omega) (by omega)
    rw [if_pos h]
    simp only [Option.bind_some]
    rw [if_neg (fun x => x rfl)]
    by_cases hlen : Int.ofNat by_.length > 50
    · rw [if_pos hlen]
    · rw [if_neg hlen, if_neg (by decide), if_neg (by omega), wr z (by omega), wr on (by omega), tdiv_eq (by decide), wr (65536 / a8) (by omega), wr (65536 - 65536 / a8) (by omega), wr (2 * (65536 / a8)) (by omega), wr (2 * (65536 / a8) + 1) (by omega), if_neg (by omega)]
      have hv : 0 ≤ z.tmod (2 * (65536 / a8) + 1) ∧ z.tmod (2 * (65536 / a8) + 1) < 2 * (65536 / a8) + 1 := ⟨Int.tmod_nonneg _ hz.1, Int.tmod_lt_of_pos _ (by omega)⟩
      rw [wr (65536 - 65536 / a8 + z.tmod (2 * (65536 / a8) + 1)) (by omega)]
      have hn : 65536 - 65536 / a8 ≤ 65536 - 65536 / a8 + z.tmod (2 * (65536 / a8) + 1) ∧ 65536 - 65536 / a8 + z.tmod (2 * (65536 / a8) + 1) ≤ 65536 + 65536 / a8 := by omega
      have hn2 : 65536 / a8 * 4 ≤ 65536 := by
        have q := Int.ediv_mul_le (65536 : Int) (show a8 ≠ 0 by omega)
        have q2 : 65536 / a8 * 4 ≤ 65536 / a8 * a8 := Int.mul_le_mul_of_nonneg_left m.1.1 (by omega)
        omega
      generalize 65536 - 65536 / a8 + z.tmod (2 * (65536 / a8) + 1) = n at *
      rw [reads2 (n := n) (o := on) (a := 0) (t := on) (by omega) (by omega) (by omega) (by omega), Int.sub_self, GN_zero, Option.bind_some, if_neg (fun x => x rfl), guardEq_self]
      obtain ⟨w, hw3, hw4⟩ := loop_ok a0 a1 a2 a3 a4 a5 a6 a7 a8 a9 a10 a11 a12 a13 a14 a15 h (by_ := by_) (later := later) (n := n) (o := on) hn ho (by omega) hw by_.length 0 0 0 (by simp) (by omega) (by omega) (by omega) (by omega) (by omega)
      rw [GN_zero, Int.add_zero, Int.add_zero] at hw3
      have hw5 : rounds vesperslaw29_BoundsSet.step0 (by_, later, true, (0 + 0, (0 : Int)).1, on, (0 + 0, (0 : Int)).1, Int.ofNat by_.length, 0, a0, a1, a2, a3, a4, a5, a6, a7, a8, a9, a10, a11, a12, a13, a14, a15, n, 65536, on, 0) = some (.inl w) := hw3
      rw [hw5, Option.bind_some]
      exact congrArg some hw4
  · rw [if_neg h]
    rfl
end LBoundsSet
end Go.Proofs.Ytgoilclgehipmaa.Pure
