/- Whether any reading is in time at any place, its deviation, its place, and the deviations of any readings that are in time, or the error, are the document's; readings stay. -/
import Derived.Test.YtlekjgjhbanimaaS6
namespace Go.Proofs.Ytlekjgjhbanimaa.Pure
open Go Go.RowKit Go.Proofs.Ytlekjgjhbanimaa.S
open Go.Proofs.Ytlekjgjhbanimaa.SX (guardEq_self rounds rounds_next rounds_end)
set_option linter.unusedVariables false
set_option linter.unusedSimpArgs false
namespace LWindowJudges
theorem wr (x : Int) (h : -9223372036854775808 ≤ x ∧ x ≤ 9223372036854775807) : wrap64 x = x := by unfold wrap64; omega
theorem tdiv_eq {x y : Int} (hx : 0 ≤ x) : Int.tdiv x y = x / y := Int.tdiv_eq_ediv_of_nonneg hx
abbrev C1 (n k : Int) : Prop := 4 ≤ n ∧ n ≤ 16 ∧ 0 ≤ k ∧ 2 * k + 2 ≤ n
abbrev C2 (air d1 d2 : Int) : Prop := 1 ≤ air ∧ air ≤ 1048576 ∧ 0 ≤ d1 ∧ d1 ≤ d2 ∧ d2 ≤ 1048576
abbrev C3 (s r : Int) : Prop := 1 ≤ s ∧ s ≤ 1048576 ∧ 4 ≤ r ∧ r ≤ 1048576
/-- A number from one to another, at most the longest slot. -/
abbrev UP (least x : Int) : Prop := least ≤ x ∧ x ≤ 1048576
abbrev C9 (q b p : Int) : Prop := 1 ≤ q ∧ q ≤ 64 ∧ 1 ≤ b ∧ b ≤ 8 ∧ 1 ≤ p ∧ p ≤ 32
abbrev KN (n k s air d1 d2 r : Int) : Prop := C1 n k ∧ C2 air d1 d2 ∧ C3 s r
def G (n s r : Int) : Int := 2 * (2 * (n * s) / r + 4)
abbrev E (d1 d2 : Int) : Int := d2 - d1 + 6
abbrev A (n s r d1 d2 : Int) : Int := 2 * (E d1 d2 + G n s r)
theorem rb {n s : Int} (h : 4 ≤ n ∧ n ≤ 16) (h2 : 1 ≤ s ∧ s ≤ 1048576) : 4 ≤ n * s ∧ n * s ≤ 16777216 := by
  have a := Int.mul_le_mul h.1 h2.1 (by omega) (by omega)
  have b := Int.mul_le_mul h.2 h2.2 (by omega) (by omega)
  omega
theorem gb {n s r : Int} (h : 4 ≤ n ∧ n ≤ 16) (h2 : 1 ≤ s ∧ s ≤ 1048576) (h3 : 4 ≤ r) : 0 ≤ 2 * (n * s) / r ∧ 2 * (n * s) / r ≤ 33554432 ∧ 8 ≤ G n s r ∧ G n s r ≤ 67108872 := by
  have a := rb h h2
  have b : 0 ≤ 2 * (n * s) / r := Int.ediv_nonneg (by omega) (by omega)
  have c : 2 * (n * s) / r ≤ 2 * (n * s) := Int.ediv_le_self _ (by omega)
  unfold G
  omega
theorem in_eq (a b c : Int) : plan_in.f a b c = some (decide (b ≤ a ∧ a ≤ c)) := by
  unfold plan_in.f
  by_cases h : a ≥ b
  · rw [if_pos h]; congr 1; rw [decide_eq_decide]; omega
  · rw [if_neg h]; congr 1; symm; exact decide_eq_false (by omega)
section
variable (a0 a1 a2 a3 a4 a5 a6 a7 a8 a9 a10 a11 a12 a13 a14 a15 : Int)
theorem nodes_eq : plan_look_nodes.f a0 a1 a2 a3 a4 a5 a6 a7 a8 a9 a10 a11 a12 a13 a14 a15 = some (decide (C1 a0 a1)) := by
  unfold plan_look_nodes.f
  rw [in_eq, Option.bind_some]
  by_cases h : 4 ≤ a0 ∧ a0 ≤ 16
  · rw [decide_eq_true h, if_pos rfl, in_eq, Option.bind_some, wr (a0 - 2) (by omega), tdiv_eq (by omega), wr ((a0 - 2) / 2) (by omega)]
    congr 1; rw [decide_eq_decide]; omega
  · rw [decide_eq_false h, if_neg (by decide)]; congr 1; symm; exact decide_eq_false (by omega)
theorem air_eq : plan_look_air.f a0 a1 a2 a3 a4 a5 a6 a7 a8 a9 a10 a11 a12 a13 a14 a15 = some (decide (C2 a5 a6 a7)) := by
  unfold plan_look_air.f
  rw [in_eq, Option.bind_some]
  by_cases h : 1 ≤ a5 ∧ a5 ≤ 1048576
  · rw [decide_eq_true h, if_pos rfl, in_eq, Option.bind_some]
    by_cases h2 : a6 ≥ 0
    · rw [if_pos h2]; congr 1; rw [decide_eq_decide]; omega
    · rw [if_neg h2]; congr 1; symm; exact decide_eq_false (by omega)
  · rw [decide_eq_false h, if_neg (by decide)]; congr 1; symm; exact decide_eq_false (by omega)
theorem slot_eq : plan_look_slot.f a0 a1 a2 a3 a4 a5 a6 a7 a8 a9 a10 a11 a12 a13 a14 a15 = some (decide (C3 a2 a8)) := by
  unfold plan_look_slot.f
  rw [in_eq, Option.bind_some]
  by_cases h : 1 ≤ a2 ∧ a2 ≤ 1048576
  · rw [decide_eq_true h, if_pos rfl, in_eq, Option.bind_some]
    congr 1; rw [decide_eq_decide]; omega
  · rw [decide_eq_false h, if_neg (by decide)]; congr 1; symm; exact decide_eq_false (by omega)
theorem known_eq : plan_look_known.f a0 a1 a2 a3 a4 a5 a6 a7 a8 a9 a10 a11 a12 a13 a14 a15 = some (decide (KN a0 a1 a2 a5 a6 a7 a8)) := by
  unfold plan_look_known.f
  rw [nodes_eq, air_eq, slot_eq]
  simp only [Option.bind_some]
  by_cases h1 : C1 a0 a1
  · by_cases h2 : C2 a5 a6 a7
    · rw [decide_eq_true h1, decide_eq_true h2, if_pos rfl, if_pos rfl]; congr 1; rw [decide_eq_decide]; exact ⟨fun h => ⟨h1, h2, h⟩, fun h => h.2.2⟩
    · rw [decide_eq_true h1, decide_eq_false h2, if_pos rfl, if_neg (by decide)]; congr 1; symm; exact decide_eq_false (fun h => h2 h.2.1)
  · rw [decide_eq_false h1, if_neg (by decide)]; congr 1; symm; exact decide_eq_false (fun h => h1 h.1)
theorem queue_eq : plan_look_queue.f a0 a1 a2 a3 a4 a5 a6 a7 a8 a9 a10 a11 a12 a13 a14 a15 = some (decide (C9 a12 a13 a14)) := by
  unfold plan_look_queue.f
  rw [in_eq, in_eq, in_eq]
  simp only [Option.bind_some]
  by_cases h : 1 ≤ a12 ∧ a12 ≤ 64
  · by_cases h2 : 1 ≤ a13 ∧ a13 ≤ 8
    · rw [decide_eq_true h, decide_eq_true h2, if_pos rfl, if_pos rfl]; congr 1; rw [decide_eq_decide]; omega
    · rw [decide_eq_true h, decide_eq_false h2, if_pos rfl, if_neg (by decide)]; congr 1; symm; exact decide_eq_false (by omega)
  · rw [decide_eq_false h, if_neg (by decide)]; congr 1; symm; exact decide_eq_false (by omega)
variable (H : KN a0 a1 a2 a5 a6 a7 a8)
include H
theorem e_eq : plan_look_e.f a0 a1 a2 a3 a4 a5 a6 a7 a8 a9 a10 a11 a12 a13 a14 a15 = some (E a6 a7) := by
  unfold plan_look_e.f
  rw [wr (a7 - a6) (by omega), wr _ (by omega)]
theorem round_eq : plan_look_round.f a0 a1 a2 a3 a4 a5 a6 a7 a8 a9 a10 a11 a12 a13 a14 a15 = some (a0 * a2) := by
  unfold plan_look_round.f
  have b := rb (n := a0) (s := a2) (by omega) (by omega)
  rw [wr _ (by omega)]
theorem g_eq : plan_look_g.f a0 a1 a2 a3 a4 a5 a6 a7 a8 a9 a10 a11 a12 a13 a14 a15 = some (G a0 a2 a8) := by
  unfold plan_look_g.f
  have b := rb (n := a0) (s := a2) (by omega) (by omega)
  have c := gb (n := a0) (s := a2) (r := a8) (by omega) (by omega) (by omega)
  have e1 : E a6 a7 = a7 - a6 + 6 := rfl
  have e2 : A a0 a2 a8 a6 a7 = 2 * (E a6 a7 + G a0 a2 a8) := rfl
  rw [round_eq (H := H), Option.bind_some, if_neg (by omega), wr (2 * (a0 * a2)) (by omega), tdiv_eq (by omega), wr (2 * (a0 * a2) / a8) (by omega), wr (2 * (a0 * a2) / a8 + 4) (by omega), wr _ (by omega)]
  rfl
theorem a_eq : plan_look_a.f a0 a1 a2 a3 a4 a5 a6 a7 a8 a9 a10 a11 a12 a13 a14 a15 = some (A a0 a2 a8 a6 a7) := by
  unfold plan_look_a.f
  have c := gb (n := a0) (s := a2) (r := a8) (by omega) (by omega) (by omega)
  have e1 : E a6 a7 = a7 - a6 + 6 := rfl
  have e2 : A a0 a2 a8 a6 a7 = 2 * (E a6 a7 + G a0 a2 a8) := rfl
  rw [e_eq (H := H), g_eq (H := H), Option.bind_some, Option.bind_some, wr (E a6 a7 + G a0 a2 a8) (by omega), wr _ (by omega)]
theorem leastPi_eq : plan_look_leastPi.f a0 a1 a2 a3 a4 a5 a6 a7 a8 a9 a10 a11 a12 a13 a14 a15 = some (2 * (A a0 a2 a8 a6 a7 + G a0 a2 a8) + E a6 a7) := by
  unfold plan_look_leastPi.f
  have c := gb (n := a0) (s := a2) (r := a8) (by omega) (by omega) (by omega)
  have e1 : E a6 a7 = a7 - a6 + 6 := rfl
  have e2 : A a0 a2 a8 a6 a7 = 2 * (E a6 a7 + G a0 a2 a8) := rfl
  rw [a_eq (H := H), g_eq (H := H), e_eq (H := H), Option.bind_some, Option.bind_some, Option.bind_some, wr (A a0 a2 a8 a6 a7 + G a0 a2 a8) (by omega), wr (2 * (A a0 a2 a8 a6 a7 + G a0 a2 a8)) (by omega), wr _ (by omega)]
theorem leastCap_eq : plan_look_leastCap.f a0 a1 a2 a3 a4 a5 a6 a7 a8 a9 a10 a11 a12 a13 a14 a15 = some (A a0 a2 a8 a6 a7 + 2 * G a0 a2 a8 + 2 * E a6 a7) := by
  unfold plan_look_leastCap.f
  have c := gb (n := a0) (s := a2) (r := a8) (by omega) (by omega) (by omega)
  have e1 : E a6 a7 = a7 - a6 + 6 := rfl
  have e2 : A a0 a2 a8 a6 a7 = 2 * (E a6 a7 + G a0 a2 a8) := rfl
  rw [a_eq (H := H), g_eq (H := H), e_eq (H := H), Option.bind_some, Option.bind_some, Option.bind_some, wr (2 * G a0 a2 a8) (by omega), wr (2 * E a6 a7) (by omega), wr (A a0 a2 a8 a6 a7 + 2 * G a0 a2 a8) (by omega), wr _ (by omega)]
theorem leastWindow_eq (hp : 0 ≤ a9 ∧ a9 ≤ 8589934592) : plan_look_leastWindow.f a0 a1 a2 a3 a4 a5 a6 a7 a8 a9 a10 a11 a12 a13 a14 a15 = some (a9 + E a6 a7) := by
  unfold plan_look_leastWindow.f
  have e1 : E a6 a7 = a7 - a6 + 6 := rfl
  rw [e_eq (H := H), Option.bind_some, wr _ (by omega)]
omit H in
theorem leastOff_eq (hp : 0 ≤ a9 ∧ a9 ≤ 8589934592) (hw : 0 ≤ a4 ∧ a4 ≤ 8589934592) (hc : 0 ≤ a10 ∧ a10 ≤ 8589934592) : plan_look_leastOff.f a0 a1 a2 a3 a4 a5 a6 a7 a8 a9 a10 a11 a12 a13 a14 a15 = some (a4 + a10 + a9) := by
  unfold plan_look_leastOff.f
  rw [wr (a4 + a10) (by omega), wr _ (by omega)]
theorem leastSlot_eq (hp : 0 ≤ a9 ∧ a9 ≤ 8589934592) (hw : 0 ≤ a4 ∧ a4 ≤ 8589934592) (hc : 0 ≤ a10 ∧ a10 ≤ 8589934592) (hs : 0 ≤ a3 ∧ a3 ≤ 34359738368) : plan_look_leastSlot.f a0 a1 a2 a3 a4 a5 a6 a7 a8 a9 a10 a11 a12 a13 a14 a15 = some (a3 + a4 + 2 * (a7 + a5) + a10 + a9 + 8) := by
  unfold plan_look_leastSlot.f
  rw [wr (a3 + a4) (by omega), wr (a7 + a5) (by omega), wr (2 * (a7 + a5)) (by omega), wr (a3 + a4 + 2 * (a7 + a5)) (by omega), wr (a3 + a4 + 2 * (a7 + a5) + a10) (by omega), wr (a3 + a4 + 2 * (a7 + a5) + a10 + a9) (by omega), wr _ (by omega)]
end
/-- In how many rounds a queue is sent. -/
def Q (q b : Int) : Int := (q + b - 1) / b
theorem qb {q b p : Int} (h : C9 q b p) : 1 ≤ Q q b ∧ Q q b ≤ 64 ∧ (q / b * b < q → q / b + 1 = Q q b) ∧ (¬ q / b * b < q → q / b = Q q b) ∧ 0 ≤ q / b ∧ q / b ≤ 64 ∧ 0 ≤ q / b * b ∧ q / b * b ≤ 64 := by
  unfold Q
  have : b = 1 ∨ b = 2 ∨ b = 3 ∨ b = 4 ∨ b = 5 ∨ b = 6 ∨ b = 7 ∨ b = 8 := by omega
  rcases this with rfl | rfl | rfl | rfl | rfl | rfl | rfl | rfl <;> omega
theorem mb {x r : Int} (hx : 0 ≤ x ∧ x ≤ 67) (hr : 4 ≤ r ∧ r ≤ 16777216) : 0 ≤ x * r ∧ x * r ≤ 1124073472 := by
  have a := Int.mul_nonneg hx.1 (show 0 ≤ r by omega)
  have b := Int.mul_le_mul hx.2 hr.2 (by omega) (by omega)
  omega
theorem leastDelta_eq (a0 a1 a2 a3 a4 a5 a6 a7 a8 a9 a10 a11 a12 a13 a14 a15 : Int) (H : KN a0 a1 a2 a5 a6 a7 a8) (hp : 0 ≤ a9 ∧ a9 ≤ 8589934592) (h9 : C9 a12 a13 a14) : plan_look_leastDelta.f a0 a1 a2 a3 a4 a5 a6 a7 a8 a9 a10 a11 a12 a13 a14 a15 = some ((Q a12 a13 + 3) * (a0 * a2) + 2 * a9) := by
  unfold plan_look_leastDelta.f
  have b := rb (n := a0) (s := a2) (by omega) (by omega)
  have q := qb h9
  have m := mb (x := Q a12 a13 + 3) (r := a0 * a2) (by omega) b
  have z : (a12 + a13 - 1) / a13 = Q a12 a13 := rfl
  rw [if_neg (by omega), round_eq (H := H), Option.bind_some, wr (a12 + a13) (by omega), wr (a12 + a13 - 1) (by omega), tdiv_eq (by omega), z, wr (Q a12 a13) (by omega), wr (Q a12 a13 + 3) (by omega), wr ((Q a12 a13 + 3) * (a0 * a2)) (by omega), wr (2 * a9) (by omega), wr _ (by omega)]
/-- The condition that a plan fails. -/
def FS (a0 a1 a2 a3 a4 a5 a6 a7 a8 a9 a10 a11 a12 a13 a14 a15 : Int) : Int :=
  if ¬ C1 a0 a1 then 1 else if ¬ C2 a5 a6 a7 then 2 else if ¬ C3 a2 a8 then 3
  else if ¬ UP (2 * (A a0 a2 a8 a6 a7 + G a0 a2 a8) + E a6 a7) a9 then 4 else if ¬ UP (a9 + E a6 a7) a4 then 5
  else if ¬ UP (A a0 a2 a8 a6 a7 + 2 * G a0 a2 a8 + 2 * E a6 a7) a10 then 6 else if ¬ UP (a4 + a10 + a9) a3 then 7
  else if ¬ a3 + a4 + 2 * (a7 + a5) + a10 + a9 + 8 ≤ a2 then 8 else if ¬ C9 a12 a13 a14 then 9
  else if ¬ ((Q a12 a13 + 3) * (a0 * a2) + 2 * a9 ≤ a11 ∧ a11 ≤ 64 * (a0 * a2)) then 10
  else if ¬ (40 * (a0 * a2) ≤ a15 ∧ a15 ≤ 2147483648) then 11 else 0
theorem ite_nn {p : Prop} [Decidable p] {x y : Int} (hx : 0 ≤ x) (hy : 0 ≤ y) : 0 ≤ if p then x else y := by split <;> assumption
theorem NN {p : Prop} (h : p) : ¬ ¬ p := fun x => x h
theorem NF : ¬ (false = true) := by decide
theorem fs_nonneg (a0 a1 a2 a3 a4 a5 a6 a7 a8 a9 a10 a11 a12 a13 a14 a15 : Int) : 0 ≤ FS a0 a1 a2 a3 a4 a5 a6 a7 a8 a9 a10 a11 a12 a13 a14 a15 := by
  unfold FS
  exact ite_nn (by decide) (ite_nn (by decide) (ite_nn (by decide) (ite_nn (by decide) (ite_nn (by decide) (ite_nn (by decide) (ite_nn (by decide) (ite_nn (by decide) (ite_nn (by decide) (ite_nn (by decide) (ite_nn (by decide) (by decide)))))))))))
theorem go_neg {α : Type} (x : Option α) (f : Bool → Option α) : ((some false).bind fun t => if (!t) = true then x else f t) = x := rfl
theorem go_pos {α : Type} (x : Option α) (f : Bool → Option α) : ((some true).bind fun t => if (!t) = true then x else f t) = f true := rfl
theorem fails_eq (a0 a1 a2 a3 a4 a5 a6 a7 a8 a9 a10 a11 a12 a13 a14 a15 : Int) : plan_Fails.f a0 a1 a2 a3 a4 a5 a6 a7 a8 a9 a10 a11 a12 a13 a14 a15 = some (FS a0 a1 a2 a3 a4 a5 a6 a7 a8 a9 a10 a11 a12 a13 a14 a15) := by
  unfold plan_Fails.f FS
  rw [nodes_eq]
  by_cases h1 : C1 a0 a1
  · rw [decide_eq_true h1, go_pos, if_neg (fun h => h h1), air_eq]
    by_cases h2 : C2 a5 a6 a7
    · rw [decide_eq_true h2, go_pos, if_neg (fun h => h h2), slot_eq]
      by_cases h3 : C3 a2 a8
      · have H : KN a0 a1 a2 a5 a6 a7 a8 := ⟨h1, h2, h3⟩
        have b := rb (n := a0) (s := a2) (by omega) (by omega)
        have c := gb (n := a0) (s := a2) (r := a8) (by omega) (by omega) (by omega)
        have e1 : E a6 a7 = a7 - a6 + 6 := rfl
        have e2 : A a0 a2 a8 a6 a7 = 2 * (E a6 a7 + G a0 a2 a8) := rfl
        rw [decide_eq_true h3, go_pos, if_neg (fun h => h h3)]
        rw [show plan_look_pi.f a0 a1 a2 a3 a4 a5 a6 a7 a8 a9 a10 a11 a12 a13 a14 a15 = some (decide (UP (2 * (A a0 a2 a8 a6 a7 + G a0 a2 a8) + E a6 a7) a9)) from by unfold plan_look_pi.f; rw [leastPi_eq (H := H), Option.bind_some, in_eq]; rfl]
        by_cases h4 : UP (2 * (A a0 a2 a8 a6 a7 + G a0 a2 a8) + E a6 a7) a9
        · rw [decide_eq_true h4, go_pos, if_neg (fun h => h h4)]
          rw [show plan_look_window.f a0 a1 a2 a3 a4 a5 a6 a7 a8 a9 a10 a11 a12 a13 a14 a15 = some (decide (UP (a9 + E a6 a7) a4)) from by unfold plan_look_window.f; rw [leastWindow_eq (H := H) (hp := by omega), Option.bind_some, in_eq]; rfl]
          by_cases h5 : UP (a9 + E a6 a7) a4
          · rw [decide_eq_true h5, go_pos, if_neg (fun h => h h5)]
            rw [show plan_look_limit.f a0 a1 a2 a3 a4 a5 a6 a7 a8 a9 a10 a11 a12 a13 a14 a15 = some (decide (UP (A a0 a2 a8 a6 a7 + 2 * G a0 a2 a8 + 2 * E a6 a7) a10)) from by unfold plan_look_limit.f; rw [leastCap_eq (H := H), Option.bind_some, in_eq]; rfl]
            by_cases h6 : UP (A a0 a2 a8 a6 a7 + 2 * G a0 a2 a8 + 2 * E a6 a7) a10
            · rw [decide_eq_true h6, go_pos, if_neg (fun h => h h6)]
              rw [show plan_look_sends.f a0 a1 a2 a3 a4 a5 a6 a7 a8 a9 a10 a11 a12 a13 a14 a15 = some (decide (UP (a4 + a10 + a9) a3)) from by unfold plan_look_sends.f; rw [leastOff_eq (hp := by omega) (hw := by omega) (hc := by omega), Option.bind_some, in_eq]; rfl]
              by_cases h7 : UP (a4 + a10 + a9) a3
              · rw [decide_eq_true h7, go_pos, if_neg (fun h => h h7)]
                rw [show plan_look_fits.f a0 a1 a2 a3 a4 a5 a6 a7 a8 a9 a10 a11 a12 a13 a14 a15 = some (decide (a3 + a4 + 2 * (a7 + a5) + a10 + a9 + 8 ≤ a2)) from by unfold plan_look_fits.f; rw [leastSlot_eq (H := H) (hp := by omega) (hw := by omega) (hc := by omega) (hs := by omega), Option.bind_some]]
                by_cases h8 : a3 + a4 + 2 * (a7 + a5) + a10 + a9 + 8 ≤ a2
                · rw [decide_eq_true h8, go_pos, if_neg (fun h => h h8), queue_eq]
                  by_cases h9 : C9 a12 a13 a14
                  · rw [decide_eq_true h9, go_pos, if_neg (fun h => h h9)]
                    rw [show plan_look_delta.f a0 a1 a2 a3 a4 a5 a6 a7 a8 a9 a10 a11 a12 a13 a14 a15 = some (decide ((Q a12 a13 + 3) * (a0 * a2) + 2 * a9 ≤ a11 ∧ a11 ≤ 64 * (a0 * a2))) from by unfold plan_look_delta.f; rw [leastDelta_eq (H := H) (hp := by omega) (h9 := h9), Option.bind_some, round_eq (H := H), Option.bind_some, wr (64 * (a0 * a2)) (by omega), in_eq]; rfl]
                    by_cases h10 : (Q a12 a13 + 3) * (a0 * a2) + 2 * a9 ≤ a11 ∧ a11 ≤ 64 * (a0 * a2)
                    · rw [decide_eq_true h10, go_pos, if_neg (fun h => h h10)]
                      rw [show plan_look_horizon.f a0 a1 a2 a3 a4 a5 a6 a7 a8 a9 a10 a11 a12 a13 a14 a15 = some (decide (40 * (a0 * a2) ≤ a15 ∧ a15 ≤ 2147483648)) from by unfold plan_look_horizon.f; rw [round_eq (H := H), Option.bind_some, wr (40 * (a0 * a2)) (by omega), in_eq]; rfl]
                      by_cases h11 : 40 * (a0 * a2) ≤ a15 ∧ a15 ≤ 2147483648
                      · rw [decide_eq_true h11, go_pos, if_neg (fun h => h h11)]
                      · rw [decide_eq_false h11, go_neg, if_pos h11]
                    · rw [decide_eq_false h10, go_neg, if_pos h10]
                  · rw [decide_eq_false h9, go_neg, if_pos h9]
                · rw [decide_eq_false h8, go_neg, if_pos h8]
              · rw [decide_eq_false h7, go_neg, if_pos h7]
            · rw [decide_eq_false h6, go_neg, if_pos h6]
          · rw [decide_eq_false h5, go_neg, if_pos h5]
        · rw [decide_eq_false h4, go_neg, if_pos h4]
      · rw [decide_eq_false h3, go_neg, if_pos h3]
    · rw [decide_eq_false h2, go_neg, if_pos h2]
  · rw [decide_eq_false h1, go_neg, if_pos h1]
/-- A plan that fails none. -/
theorem fs_zero (a0 a1 a2 a3 a4 a5 a6 a7 a8 a9 a10 a11 a12 a13 a14 a15 : Int) (h : FS a0 a1 a2 a3 a4 a5 a6 a7 a8 a9 a10 a11 a12 a13 a14 a15 = 0) : KN a0 a1 a2 a5 a6 a7 a8 ∧ UP (2 * (A a0 a2 a8 a6 a7 + G a0 a2 a8) + E a6 a7) a9 ∧ UP (a9 + E a6 a7) a4 ∧ UP (A a0 a2 a8 a6 a7 + 2 * G a0 a2 a8 + 2 * E a6 a7) a10 ∧ UP (a4 + a10 + a9) a3
    ∧ a3 + a4 + 2 * (a7 + a5) + a10 + a9 + 8 ≤ a2 ∧ C9 a12 a13 a14 ∧ ((Q a12 a13 + 3) * (a0 * a2) + 2 * a9 ≤ a11 ∧ a11 ≤ 64 * (a0 * a2)) ∧ (40 * (a0 * a2) ≤ a15 ∧ a15 ≤ 2147483648) := by
  unfold FS at h
  by_cases h1 : C1 a0 a1
  · rw [if_neg (fun x => x h1)] at h
    by_cases h2 : C2 a5 a6 a7
    · rw [if_neg (fun x => x h2)] at h
      by_cases h3 : C3 a2 a8
      · rw [if_neg (fun x => x h3)] at h
        by_cases h4 : UP (2 * (A a0 a2 a8 a6 a7 + G a0 a2 a8) + E a6 a7) a9
        · rw [if_neg (fun x => x h4)] at h
          by_cases h5 : UP (a9 + E a6 a7) a4
          · rw [if_neg (fun x => x h5)] at h
            by_cases h6 : UP (A a0 a2 a8 a6 a7 + 2 * G a0 a2 a8 + 2 * E a6 a7) a10
            · rw [if_neg (fun x => x h6)] at h
              by_cases h7 : UP (a4 + a10 + a9) a3
              · rw [if_neg (fun x => x h7)] at h
                by_cases h8 : a3 + a4 + 2 * (a7 + a5) + a10 + a9 + 8 ≤ a2
                · rw [if_neg (fun x => x h8)] at h
                  by_cases h9 : C9 a12 a13 a14
                  · rw [if_neg (fun x => x h9)] at h
                    by_cases h10 : (Q a12 a13 + 3) * (a0 * a2) + 2 * a9 ≤ a11 ∧ a11 ≤ 64 * (a0 * a2)
                    · rw [if_neg (fun x => x h10)] at h
                      by_cases h11 : 40 * (a0 * a2) ≤ a15 ∧ a15 ≤ 2147483648
                      · exact ⟨⟨h1, h2, h3⟩, h4, h5, h6, h7, h8, h9, h10, h11⟩
                      · rw [if_pos h11] at h; exact absurd h (by decide)
                    · rw [if_pos h10] at h; exact absurd h (by decide)
                  · rw [if_pos h9] at h; exact absurd h (by decide)
                · rw [if_pos h8] at h; exact absurd h (by decide)
              · rw [if_pos h7] at h; exact absurd h (by decide)
            · rw [if_pos h6] at h; exact absurd h (by decide)
          · rw [if_pos h5] at h; exact absurd h (by decide)
        · rw [if_pos h4] at h; exact absurd h (by decide)
      · rw [if_pos h3] at h; exact absurd h (by decide)
    · rw [if_pos h2] at h; exact absurd h (by decide)
  · rw [if_pos h1] at h; exact absurd h (by decide)
theorem pround_eq (a0 a1 a2 a3 a4 a5 a6 a7 a8 a9 a10 a11 a12 a13 a14 a15 : Int) : plan_Round.f a0 a1 a2 a3 a4 a5 a6 a7 a8 a9 a10 a11 a12 a13 a14 a15 = some (if KN a0 a1 a2 a5 a6 a7 a8 then a0 * a2 else 0) := by
  unfold plan_Round.f
  rw [known_eq, Option.bind_some]
  by_cases H : KN a0 a1 a2 a5 a6 a7 a8
  · rw [decide_eq_true H, if_pos rfl, if_pos H, round_eq (H := H)]; rfl
  · rw [decide_eq_false H, if_neg (by decide), if_neg H]
theorem check_eq (a0 a1 a2 a3 a4 a5 a6 a7 a8 a9 a10 a11 a12 a13 a14 a15 : Int) : plan_Check.f a0 a1 a2 a3 a4 a5 a6 a7 a8 a9 a10 a11 a12 a13 a14 a15 = some (if FS a0 a1 a2 a3 a4 a5 a6 a7 a8 a9 a10 a11 a12 a13 a14 a15 = 0 then 0 else 70) := by
  unfold plan_Check.f
  rw [fails_eq, Option.bind_some]
  by_cases h : FS a0 a1 a2 a3 a4 a5 a6 a7 a8 a9 a10 a11 a12 a13 a14 a15 = 0
  · rw [if_neg (fun x => x h), if_pos h]
  · rw [if_pos h, if_neg h]
theorem nb {r n s : Int} (hr : 0 ≤ r ∧ r ≤ 2147483647) (hn : 4 ≤ n ∧ n ≤ 16) (hs : 0 ≤ s ∧ s < n) : 0 ≤ r * n ∧ r * n ≤ 34359738352 ∧ 0 ≤ r * n + s ∧ r * n + s ≤ 34359738367 := by
  have a := Int.mul_nonneg hr.1 (show 0 ≤ n by omega)
  have b := Int.mul_le_mul hr.2 hn.2 (by omega) (by omega)
  have c : r * n ≤ 2147483647 * n := Int.mul_le_mul_of_nonneg_right hr.2 (by omega)
  omega
theorem mbb {m a : Int} (hm : 0 ≤ m ∧ m ≤ 34359738368) (ha : 1 ≤ a ∧ a ≤ 1048576) : 0 ≤ m * a ∧ m * a ≤ 36028797018963968 := by
  have x := Int.mul_nonneg hm.1 (show 0 ≤ a by omega)
  have y := Int.mul_le_mul hm.2 ha.2 (by omega) (by omega)
  omega
/-- A plan that may be has the place. -/
abbrev HAS (a0 a1 a2 a3 a4 a5 a6 a7 a8 a9 a10 a11 a12 a13 a14 a15 : Int) (r s : Int) : Prop := FS a0 a1 a2 a3 a4 a5 a6 a7 a8 a9 a10 a11 a12 a13 a14 a15 = 0 ∧ 0 ≤ r ∧ r ≤ 2147483647 ∧ 0 ≤ s ∧ s < a0
section
variable (a0 a1 a2 a3 a4 a5 a6 a7 a8 a9 a10 a11 a12 a13 a14 a15 : Int)
theorem has_eq (r s : Int) : table_has.f a0 a1 a2 a3 a4 a5 a6 a7 a8 a9 a10 a11 a12 a13 a14 a15 r s = some (decide (HAS a0 a1 a2 a3 a4 a5 a6 a7 a8 a9 a10 a11 a12 a13 a14 a15 r s)) := by
  unfold table_has.f
  rw [check_eq, Option.bind_some]
  by_cases h : FS a0 a1 a2 a3 a4 a5 a6 a7 a8 a9 a10 a11 a12 a13 a14 a15 = 0
  · rw [if_pos h, if_pos rfl]
    by_cases h1 : r ≥ 0
    · rw [if_pos h1]
      by_cases h2 : r ≤ 2147483647
      · rw [if_pos h2]
        by_cases h3 : s ≥ 0
        · rw [if_pos h3]; congr 1; rw [decide_eq_decide]; exact ⟨fun x => ⟨h, h1, h2, h3, x⟩, fun x => x.2.2.2.2⟩
        · rw [if_neg h3]; congr 1; symm; exact decide_eq_false (fun x => h3 x.2.2.2.1)
      · rw [if_neg h2]; congr 1; symm; exact decide_eq_false (fun x => h2 x.2.2.1)
    · rw [if_neg h1]; congr 1; symm; exact decide_eq_false (fun x => h1 x.2.1)
  · rw [if_neg h, if_neg (by decide)]; congr 1; symm; exact decide_eq_false (fun x => h x.1)
theorem tmiddle_eq (h6 : 0 ≤ a6 ∧ a6 ≤ 1048576) (h7 : 0 ≤ a7 ∧ a7 ≤ 1048576) : table_middle.f a0 a1 a2 a3 a4 a5 a6 a7 a8 a9 a10 a11 a12 a13 a14 a15 = some ((a6 + a7) / 2) := by
  unfold table_middle.f
  rw [wr (a6 + a7) (by omega), tdiv_eq (by omega), wr _ (by omega)]
variable (r s : Int)
theorem number_eq (hr : 0 ≤ r ∧ r ≤ 2147483647) (hn : 4 ≤ a0 ∧ a0 ≤ 16) (hs : 0 ≤ s ∧ s < a0) : table_spot_number.f a0 a1 a2 a3 a4 a5 a6 a7 a8 a9 a10 a11 a12 a13 a14 a15 r s = some (r * a0 + s) := by
  have b := nb hr hn hs
  unfold table_spot_number.f
  rw [wr (r * a0) (by omega), wr _ (by omega)]
theorem begin_eq (hr : 0 ≤ r ∧ r ≤ 2147483647) (hn : 4 ≤ a0 ∧ a0 ≤ 16) (hs : 0 ≤ s ∧ s < a0) (h2 : 1 ≤ a2 ∧ a2 ≤ 1048576) : table_spot_begin.f a0 a1 a2 a3 a4 a5 a6 a7 a8 a9 a10 a11 a12 a13 a14 a15 r s = some ((r * a0 + s) * a2) := by
  have b := nb hr hn hs
  have c := mbb (m := r * a0 + s) (a := a2) (by omega) h2
  unfold table_spot_begin.f
  rw [number_eq (hr := hr) (hn := hn) (hs := hs), Option.bind_some, wr _ (by omega)]
theorem sends_eq (hr : 0 ≤ r ∧ r ≤ 2147483647) (hn : 4 ≤ a0 ∧ a0 ≤ 16) (hs : 0 ≤ s ∧ s < a0) (h2 : 1 ≤ a2 ∧ a2 ≤ 1048576) (h3 : 0 ≤ a3 ∧ a3 ≤ 1048576) : table_spot_sends.f a0 a1 a2 a3 a4 a5 a6 a7 a8 a9 a10 a11 a12 a13 a14 a15 r s = some ((r * a0 + s) * a2 + a3) := by
  have b := nb hr hn hs
  have c := mbb (m := r * a0 + s) (a := a2) (by omega) h2
  unfold table_spot_sends.f
  rw [begin_eq (hr := hr) (hn := hn) (hs := hs) (h2 := h2), Option.bind_some, wr _ (by omega)]
theorem expected_eq (hr : 0 ≤ r ∧ r ≤ 2147483647) (hn : 4 ≤ a0 ∧ a0 ≤ 16) (hs : 0 ≤ s ∧ s < a0) (h2 : 1 ≤ a2 ∧ a2 ≤ 1048576) (h3 : 0 ≤ a3 ∧ a3 ≤ 1048576) (h6 : 0 ≤ a6 ∧ a6 ≤ 1048576) (h7 : 0 ≤ a7 ∧ a7 ≤ 1048576) :
    table_spot_expected.f a0 a1 a2 a3 a4 a5 a6 a7 a8 a9 a10 a11 a12 a13 a14 a15 r s = some ((r * a0 + s) * a2 + a3 + (a6 + a7) / 2) := by
  have b := nb hr hn hs
  have c := mbb (m := r * a0 + s) (a := a2) (by omega) h2
  unfold table_spot_expected.f
  rw [sends_eq (hr := hr) (hn := hn) (hs := hs) (h2 := h2) (h3 := h3), tmiddle_eq (h6 := h6) (h7 := h7), Option.bind_some, Option.bind_some, wr _ (by omega)]
/-- What a plan that may be has. -/
theorem may_all (h : FS a0 a1 a2 a3 a4 a5 a6 a7 a8 a9 a10 a11 a12 a13 a14 a15 = 0) : 4 ≤ a0 ∧ a0 ≤ 16 ∧ 1 ≤ a2 ∧ a2 ≤ 1048576 ∧ 0 ≤ a6 ∧ a6 ≤ a7 ∧ a7 ≤ 1048576 ∧ 8 ≤ a9 ∧ a9 ≤ 1048576 ∧ a9 + (a7 - a6 + 6) ≤ a4 ∧ a4 ≤ 1048576 ∧ 8 ≤ a10 ∧ a10 ≤ 1048576 ∧ a4 + a10 + a9 ≤ a3 ∧ a3 ≤ 1048576
    ∧ a3 + a4 + 2 * (a7 + a5) + a10 + a9 + 8 ≤ a2 ∧ 1 ≤ a5 ∧ KN a0 a1 a2 a5 a6 a7 a8 := by
  obtain ⟨H, g4, g5, g6, g7, g8, g9, g10, g11⟩ := fs_zero (h := h)
  have c := gb (n := a0) (s := a2) (r := a8) (by omega) (by omega) (by omega)
  have e1 : E a6 a7 = a7 - a6 + 6 := rfl
  have e2 : A a0 a2 a8 a6 a7 = 2 * (E a6 a7 + G a0 a2 a8) := rfl
  exact ⟨by omega, by omega, by omega, by omega, by omega, by omega, by omega, by omega, by omega, by omega, by omega, by omega, by omega, by omega, by omega, by omega, by omega, H⟩
theorem Begin_ok (h : HAS a0 a1 a2 a3 a4 a5 a6 a7 a8 a9 a10 a11 a12 a13 a14 a15 r s) : table_Begin.f a0 a1 a2 a3 a4 a5 a6 a7 a8 a9 a10 a11 a12 a13 a14 a15 r s = some ((r * a0 + s) * a2, 0) := by
  have m := may_all (h := h.1)
  obtain ⟨hf, h1, h2, h3, h4⟩ := id h
  unfold table_Begin.f
  rw [has_eq, decide_eq_true h, go_pos, begin_eq (hr := by omega) (hn := by omega) (hs := by omega) (h2 := by omega)]
  rfl
theorem Begin_no (h : ¬ HAS a0 a1 a2 a3 a4 a5 a6 a7 a8 a9 a10 a11 a12 a13 a14 a15 r s) : table_Begin.f a0 a1 a2 a3 a4 a5 a6 a7 a8 a9 a10 a11 a12 a13 a14 a15 r s = some (0, 90) := by
  unfold table_Begin.f
  rw [has_eq, decide_eq_false h, go_neg]
theorem Sends_ok (h : HAS a0 a1 a2 a3 a4 a5 a6 a7 a8 a9 a10 a11 a12 a13 a14 a15 r s) : table_Sends.f a0 a1 a2 a3 a4 a5 a6 a7 a8 a9 a10 a11 a12 a13 a14 a15 r s = some ((r * a0 + s) * a2 + a3, 0) := by
  have m := may_all (h := h.1)
  obtain ⟨hf, h1, h2, h3, h4⟩ := id h
  unfold table_Sends.f
  rw [has_eq, decide_eq_true h, go_pos, sends_eq (hr := by omega) (hn := by omega) (hs := by omega) (h2 := by omega) (h3 := by omega)]
  rfl
theorem Sends_no (h : ¬ HAS a0 a1 a2 a3 a4 a5 a6 a7 a8 a9 a10 a11 a12 a13 a14 a15 r s) : table_Sends.f a0 a1 a2 a3 a4 a5 a6 a7 a8 a9 a10 a11 a12 a13 a14 a15 r s = some (0, 90) := by
  unfold table_Sends.f
  rw [has_eq, decide_eq_false h, go_neg]
theorem Expected_ok (h : HAS a0 a1 a2 a3 a4 a5 a6 a7 a8 a9 a10 a11 a12 a13 a14 a15 r s) : table_Expected.f a0 a1 a2 a3 a4 a5 a6 a7 a8 a9 a10 a11 a12 a13 a14 a15 r s = some ((r * a0 + s) * a2 + a3 + (a6 + a7) / 2, (r * a0 + s) * a2 + a3 + (a6 + a7) / 2 - a4, (r * a0 + s) * a2 + a3 + (a6 + a7) / 2 + a4, 0) := by
  have m := may_all (h := h.1)
  obtain ⟨hf, h1, h2, h3, h4⟩ := id h
  have b := nb (r := r) (n := a0) (s := s) (by omega) (by omega) (by omega)
  have c := mbb (m := r * a0 + s) (a := a2) (by omega) (by omega)
  unfold table_Expected.f
  rw [has_eq, decide_eq_true h, go_pos, expected_eq (hr := by omega) (hn := by omega) (hs := by omega) (h2 := by omega) (h3 := by omega) (h6 := by omega) (h7 := by omega), Option.bind_some, wr (_ - a4) (by omega), wr (_ + a4) (by omega)]
theorem Expected_no (h : ¬ HAS a0 a1 a2 a3 a4 a5 a6 a7 a8 a9 a10 a11 a12 a13 a14 a15 r s) : table_Expected.f a0 a1 a2 a3 a4 a5 a6 a7 a8 a9 a10 a11 a12 a13 a14 a15 r s = some (0, 0, 0, 90) := by
  unfold table_Expected.f
  rw [has_eq, decide_eq_false h, go_neg]
theorem Middle_ok (h : FS a0 a1 a2 a3 a4 a5 a6 a7 a8 a9 a10 a11 a12 a13 a14 a15 = 0) : table_Middle.f a0 a1 a2 a3 a4 a5 a6 a7 a8 a9 a10 a11 a12 a13 a14 a15 = some ((a6 + a7) / 2) := by
  have m := may_all (h := h)
  unfold table_Middle.f
  rw [check_eq, if_pos h, Option.bind_some, if_neg (fun x => x rfl), tmiddle_eq (h6 := by omega) (h7 := by omega)]
  rfl
theorem Middle_no (h : ¬ FS a0 a1 a2 a3 a4 a5 a6 a7 a8 a9 a10 a11 a12 a13 a14 a15 = 0) : table_Middle.f a0 a1 a2 a3 a4 a5 a6 a7 a8 a9 a10 a11 a12 a13 a14 a15 = some 0 := by
  unfold table_Middle.f
  rw [check_eq, if_neg h, Option.bind_some, if_pos (by decide)]
theorem pround_ok (h : FS a0 a1 a2 a3 a4 a5 a6 a7 a8 a9 a10 a11 a12 a13 a14 a15 = 0) : plan_Round.f a0 a1 a2 a3 a4 a5 a6 a7 a8 a9 a10 a11 a12 a13 a14 a15 = some (a0 * a2) := by
  have m := may_all (h := h)
  rw [pround_eq, if_pos (by omega)]
end
section
variable (a0 a1 a2 a3 a4 a5 a6 a7 a8 a9 a10 a11 a12 a13 a14 a15 : Int) (n w : Int)
end
section
variable (a0 a1 a2 a3 a4 a5 a6 a7 a8 a9 a10 a11 a12 a13 a14 a15 : Int)
theorem Of_ok (h : FS a0 a1 a2 a3 a4 a5 a6 a7 a8 a9 a10 a11 a12 a13 a14 a15 = 0) (L : Int) (h0 : 0 ≤ L) (h1 : L ≤ 2147483647 * (a0 * a2)) : table_Of.f a0 a1 a2 a3 a4 a5 a6 a7 a8 a9 a10 a11 a12 a13 a14 a15 L = some (L / a2 / a0, (L / a2) % a0, 0) := by
  have m := may_all (h := h)
  have b := rb (n := a0) (s := a2) (by omega) (by omega)
  have d0 : 0 ≤ L / a2 := Int.ediv_nonneg h0 (by omega)
  have d1 : L / a2 ≤ L := Int.ediv_le_self _ h0
  have d2 : 0 ≤ L / a2 / a0 := Int.ediv_nonneg d0 (by omega)
  have d3 : L / a2 / a0 ≤ L / a2 := Int.ediv_le_self _ d0
  unfold table_Of.f
  rw [check_eq, if_pos h, Option.bind_some, if_neg (fun x => x rfl), if_neg (by omega), pround_ok (h := h), Option.bind_some, wr (2147483647 * (a0 * a2)) (by omega), if_neg (by omega), if_neg (by omega), if_neg (by omega), if_neg (by omega)]
  rw [tdiv_eq h0, wr (L / a2) (by omega), tdiv_eq d0, wr (L / a2 / a0) (by omega), Int.tmod_eq_emod_of_nonneg d0]
theorem Of_low (h : FS a0 a1 a2 a3 a4 a5 a6 a7 a8 a9 a10 a11 a12 a13 a14 a15 = 0) (L : Int) (h0 : L < 0) : table_Of.f a0 a1 a2 a3 a4 a5 a6 a7 a8 a9 a10 a11 a12 a13 a14 a15 L = some (0, 0, 90) := by
  unfold table_Of.f
  rw [check_eq, if_pos h, Option.bind_some, if_neg (fun x => x rfl), if_pos h0]
theorem Of_high (h : FS a0 a1 a2 a3 a4 a5 a6 a7 a8 a9 a10 a11 a12 a13 a14 a15 = 0) (L : Int) (h1 : 2147483647 * (a0 * a2) < L) : table_Of.f a0 a1 a2 a3 a4 a5 a6 a7 a8 a9 a10 a11 a12 a13 a14 a15 L = some (0, 0, 90) := by
  have m := may_all (h := h)
  have b := rb (n := a0) (s := a2) (by omega) (by omega)
  unfold table_Of.f
  rw [check_eq, if_pos h, Option.bind_some, if_neg (fun x => x rfl), if_neg (by omega), pround_ok (h := h), Option.bind_some, wr (2147483647 * (a0 * a2)) (by omega), if_pos (by omega)]
theorem Of_no (h : ¬ FS a0 a1 a2 a3 a4 a5 a6 a7 a8 a9 a10 a11 a12 a13 a14 a15 = 0) (L : Int) : table_Of.f a0 a1 a2 a3 a4 a5 a6 a7 a8 a9 a10 a11 a12 a13 a14 a15 L = some (0, 0, 90) := by
  unfold table_Of.f
  rw [check_eq, if_neg h, Option.bind_some, if_pos (by decide)]
variable (r s : Int)
theorem Next_in (h : HAS a0 a1 a2 a3 a4 a5 a6 a7 a8 a9 a10 a11 a12 a13 a14 a15 r s) (hs : s + 1 < a0) : table_Next.f a0 a1 a2 a3 a4 a5 a6 a7 a8 a9 a10 a11 a12 a13 a14 a15 r s = some (r, s + 1, 0) := by
  have m := may_all (h := h.1)
  obtain ⟨hf, h1, h2, h3, h4⟩ := id h
  have h' : HAS a0 a1 a2 a3 a4 a5 a6 a7 a8 a9 a10 a11 a12 a13 a14 a15 r (s + 1) := ⟨hf, h1, h2, by omega, hs⟩
  unfold table_Next.f
  rw [has_eq, decide_eq_true h, go_pos, wr (s + 1) (by omega), if_neg (by omega), has_eq, decide_eq_true h', go_pos]
theorem Next_over (h : HAS a0 a1 a2 a3 a4 a5 a6 a7 a8 a9 a10 a11 a12 a13 a14 a15 r s) (hs : s + 1 = a0) (hr : r < 2147483647) : table_Next.f a0 a1 a2 a3 a4 a5 a6 a7 a8 a9 a10 a11 a12 a13 a14 a15 r s = some (r + 1, 0, 0) := by
  have m := may_all (h := h.1)
  obtain ⟨hf, h1, h2, h3, h4⟩ := id h
  have h' : HAS a0 a1 a2 a3 a4 a5 a6 a7 a8 a9 a10 a11 a12 a13 a14 a15 (r + 1) 0 := ⟨hf, by omega, by omega, by omega, by omega⟩
  unfold table_Next.f
  rw [has_eq, decide_eq_true h, go_pos, wr (s + 1) (by omega), if_pos hs, wr (r + 1) (by omega), has_eq, decide_eq_true h', go_pos]
theorem Next_last (h : HAS a0 a1 a2 a3 a4 a5 a6 a7 a8 a9 a10 a11 a12 a13 a14 a15 r s) (hs : s + 1 = a0) (hr : r = 2147483647) : table_Next.f a0 a1 a2 a3 a4 a5 a6 a7 a8 a9 a10 a11 a12 a13 a14 a15 r s = some (0, 0, 90) := by
  have m := may_all (h := h.1)
  obtain ⟨hf, h1, h2, h3, h4⟩ := id h
  have h' : ¬ HAS a0 a1 a2 a3 a4 a5 a6 a7 a8 a9 a10 a11 a12 a13 a14 a15 (r + 1) 0 := fun x => by have := x.2; omega
  unfold table_Next.f
  rw [has_eq, decide_eq_true h, go_pos, wr (s + 1) (by omega), if_pos hs, wr (r + 1) (by omega), has_eq, decide_eq_false h', go_neg]
theorem Next_no (h : ¬ HAS a0 a1 a2 a3 a4 a5 a6 a7 a8 a9 a10 a11 a12 a13 a14 a15 r s) : table_Next.f a0 a1 a2 a3 a4 a5 a6 a7 a8 a9 a10 a11 a12 a13 a14 a15 r s = some (0, 0, 90) := by
  unfold table_Next.f
  rw [has_eq, decide_eq_false h, go_neg]
end
/-- A place's number leads back to the place. -/
theorem place_back {r n s : Int} (hn : 1 ≤ n) (hs : 0 ≤ s ∧ s < n) : (r * n + s) / n = r ∧ (r * n + s) % n = s := by
  have e : r * n + s = s + r * n := by omega
  rw [e]
  constructor
  · rw [Int.add_mul_ediv_right _ _ (by omega), Int.ediv_eq_zero_of_lt hs.1 hs.2]; omega
  · rw [Int.add_mul_emod_self_right]; exact Int.emod_eq_of_lt hs.1 hs.2
theorem begin_back {m S : Int} (hS : 1 ≤ S) : m * S / S = m ∧ (m * S - 1) / S = m - 1 := by
  constructor
  · exact Int.mul_ediv_cancel _ (by omega)
  · have e : m * S - 1 = (S - 1) + (m - 1) * S := by rw [Int.sub_mul]; omega
    rw [e, Int.add_mul_ediv_right _ _ (by omega), Int.ediv_eq_zero_of_lt (by omega) (by omega)]; omega
/-- A verdict. -/
def VER (t m w : Int) : Int := if t < m - w then 1 else if t > m + w then 3 else 2
abbrev MAY (t : Int) : Prop := -4294967296 ≤ t ∧ t ≤ 1152921504606846976
theorem wmay_eq (t : Int) : window_may.f t = some (decide (MAY t)) := by
  unfold window_may.f
  by_cases h : t ≥ -4294967296
  · rw [if_pos h]; congr 1; rw [decide_eq_decide]; exact ⟨fun x => ⟨h, x⟩, fun x => x.2⟩
  · rw [if_neg h]; congr 1; symm; exact decide_eq_false (fun x => h x.1)
section
variable (a0 a1 a2 a3 a4 a5 a6 a7 a8 a9 a10 a11 a12 a13 a14 a15 : Int)
variable (r s t : Int)
theorem mid_b (h : HAS a0 a1 a2 a3 a4 a5 a6 a7 a8 a9 a10 a11 a12 a13 a14 a15 r s) : 0 ≤ (r * a0 + s) * a2 ∧ (r * a0 + s) * a2 ≤ 36028797018963968 := by
  have m := may_all (h := h.1)
  obtain ⟨hf, h1, h2, h3, h4⟩ := id h
  have b := nb (r := r) (n := a0) (s := s) (by omega) (by omega) (by omega)
  exact mbb (m := r * a0 + s) (a := a2) (by omega) (by omega)
theorem Judge_ok (h : HAS a0 a1 a2 a3 a4 a5 a6 a7 a8 a9 a10 a11 a12 a13 a14 a15 r s) (ht : MAY t) : window_Judge.f a0 a1 a2 a3 a4 a5 a6 a7 a8 a9 a10 a11 a12 a13 a14 a15 r s t = some (VER t (((r * a0 + s) * a2 + a3 + (a6 + a7) / 2)) a4, t - ((r * a0 + s) * a2 + a3 + (a6 + a7) / 2), 0) := by
  have m := may_all (h := h.1)
  have b := mid_b (h := h)
  unfold window_Judge.f VER
  rw [Expected_ok (h := h), Option.bind_some]
  dsimp only
  rw [if_neg (by decide), wmay_eq, decide_eq_true ht, Option.bind_some, if_neg (by decide), wr _ (by omega)]
  by_cases g : t < ((r * a0 + s) * a2 + a3 + (a6 + a7) / 2) - a4
  · rw [if_pos g, if_pos g]
  · rw [if_neg g, if_neg g]
    by_cases g2 : t > ((r * a0 + s) * a2 + a3 + (a6 + a7) / 2) + a4
    · rw [if_pos g2, if_pos g2]
    · rw [if_neg g2, if_neg g2]
theorem Judge_no (h : ¬ (HAS a0 a1 a2 a3 a4 a5 a6 a7 a8 a9 a10 a11 a12 a13 a14 a15 r s ∧ MAY t)) : window_Judge.f a0 a1 a2 a3 a4 a5 a6 a7 a8 a9 a10 a11 a12 a13 a14 a15 r s t = some (0, 0, 160) := by
  unfold window_Judge.f
  by_cases g : HAS a0 a1 a2 a3 a4 a5 a6 a7 a8 a9 a10 a11 a12 a13 a14 a15 r s
  · rw [Expected_ok (h := g), Option.bind_some]
    dsimp only
    rw [if_neg (by decide), wmay_eq, decide_eq_false (fun x => h ⟨g, x⟩), Option.bind_some, if_pos (by decide)]
  · rw [Expected_no (h := g), Option.bind_some]
    dsimp only
    rw [if_pos (by decide)]
end
theorem alive_eq : vesperslaw16_alive.f = some true := by kernel_rfl
theorem rnumbers_eq (a0 a1 a2 a3 a4 a5 a6 a7 a8 a9 a10 a11 a12 a13 a14 a15 : Int) (H : KN a0 a1 a2 a5 a6 a7 a8) : vespersref07_numbers.f a0 a1 a2 a3 a4 a5 a6 a7 a8 a9 a10 a11 a12 a13 a14 a15 = some (E a6 a7, G a0 a2 a8, A a0 a2 a8 a6 a7) := by
  unfold vespersref07_numbers.f
  have b := rb (n := a0) (s := a2) (by omega) (by omega)
  have c := gb (n := a0) (s := a2) (r := a8) (by omega) (by omega) (by omega)
  have e1 : E a6 a7 = a7 - a6 + 6 := rfl
  have e2 : A a0 a2 a8 a6 a7 = 2 * (E a6 a7 + G a0 a2 a8) := rfl
  have z : 2 * (2 * (a0 * a2) / a8 + 4) = G a0 a2 a8 := rfl
  rw [if_neg (by omega), wr (a7 - a6) (by omega), wr (a7 - a6 + 6) (by omega), wr (a0 * a2) (by omega), wr (2 * (a0 * a2)) (by omega), tdiv_eq (by omega), wr (2 * (a0 * a2) / a8) (by omega), wr (2 * (a0 * a2) / a8 + 4) (by omega), z, wr (G a0 a2 a8) (by omega), wr (a7 - a6 + 6 + G a0 a2 a8) (by omega), wr _ (by omega)]
theorem five_one {α : Type} (n k m : Int) (hm : 0 ≤ k → k ≤ 16 → m = 2 * k + 2) (v R : α) : (if n < 4 then v else if n > 16 then v else if k < 0 then v else if k > 16 then v else if n < m then v else R) = if ¬ C1 n k then v else R := by
  by_cases g : 0 ≤ k ∧ k ≤ 16
  · rw [hm g.1 g.2]
    by_cases h : C1 n k
    · rw [if_neg (NN h), if_neg (by omega), if_neg (by omega), if_neg (by omega), if_neg (by omega), if_neg (by omega)]
    · rw [if_pos h]
      repeat' split
      all_goals first | rfl | (exfalso; omega)
  · rw [if_pos (fun x : C1 n k => g ⟨by omega, by omega⟩)]
    repeat' split
    all_goals first | rfl | (exfalso; omega)
theorem five_two {α : Type} (air d1 d2 : Int) (v R : α) : (if air < 1 then v else if air > 1048576 then v else if d1 < 0 then v else if d2 < d1 then v else if d2 > 1048576 then v else R) = if ¬ C2 air d1 d2 then v else R := by
  by_cases h : C2 air d1 d2
  · rw [if_neg (NN h), if_neg (by omega), if_neg (by omega), if_neg (by omega), if_neg (by omega), if_neg (by omega)]
  · rw [if_pos h]
    repeat' split
    all_goals first | rfl | (exfalso; omega)
theorem four_three {α : Type} (s r : Int) (v R : α) : (if s < 1 then v else if s > 1048576 then v else if r < 4 then v else if r > 1048576 then v else R) = if ¬ C3 s r then v else R := by
  by_cases h : C3 s r
  · rw [if_neg (NN h), if_neg (by omega), if_neg (by omega), if_neg (by omega), if_neg (by omega)]
  · rw [if_pos h]
    repeat' split
    all_goals first | rfl | (exfalso; omega)
theorem rfirst_eq (a0 a1 a2 a3 a4 a5 a6 a7 a8 a9 a10 a11 a12 a13 a14 a15 : Int) : vespersref07_first.f a0 a1 a2 a3 a4 a5 a6 a7 a8 a9 a10 a11 a12 a13 a14 a15 = some (if ¬ C1 a0 a1 then 1 else if ¬ C2 a5 a6 a7 then 2 else if ¬ C3 a2 a8 then 3 else 0) := by
  unfold vespersref07_first.f
  rw [five_one a0 a1 (wrap64 (wrap64 (2 * a1) + 2)) (fun g g' => by rw [wr (2 * a1) (by omega), wr (2 * a1 + 2) (by omega)]), five_two, four_three]
  split
  · rfl
  · split
    · rfl
    · split <;> rfl
theorem two_up {α : Type} (x l : Int) (v R : α) : (if x < l then v else if x > 1048576 then v else R) = if ¬ UP l x then v else R := by
  repeat' split
  all_goals first | rfl | (exfalso; omega)
theorem two_in {α : Type} (x l u : Int) (v R : α) : (if x < l then v else if x > u then v else R) = if ¬ (l ≤ x ∧ x ≤ u) then v else R := by
  repeat' split
  all_goals first | rfl | (exfalso; omega)
theorem six_nine {α : Type} (q b p : Int) (v R : α) : (if q < 1 then v else if q > 64 then v else if b < 1 then v else if b > 8 then v else if p < 1 then v else if p > 32 then v else R) = if ¬ C9 q b p then v else R := by
  by_cases h : C9 q b p
  · rw [if_neg (NN h), if_neg (by omega), if_neg (by omega), if_neg (by omega), if_neg (by omega), if_neg (by omega), if_neg (by omega)]
  · rw [if_pos h]
    repeat' split
    all_goals first | rfl | (exfalso; omega)
theorem rfails_eq (a0 a1 a2 a3 a4 a5 a6 a7 a8 a9 a10 a11 a12 a13 a14 a15 : Int) : vespersref07_Fails.f a0 a1 a2 a3 a4 a5 a6 a7 a8 a9 a10 a11 a12 a13 a14 a15 = some (FS a0 a1 a2 a3 a4 a5 a6 a7 a8 a9 a10 a11 a12 a13 a14 a15) := by
  unfold vespersref07_Fails.f FS
  rw [rfirst_eq, Option.bind_some]
  by_cases h1 : C1 a0 a1
  · by_cases h2 : C2 a5 a6 a7
    · by_cases h3 : C3 a2 a8
      · have H : KN a0 a1 a2 a5 a6 a7 a8 := ⟨h1, h2, h3⟩
        have b := rb (n := a0) (s := a2) (by omega) (by omega)
        have c := gb (n := a0) (s := a2) (r := a8) (by omega) (by omega) (by omega)
        have e1 : E a6 a7 = a7 - a6 + 6 := rfl
        have e2 : A a0 a2 a8 a6 a7 = 2 * (E a6 a7 + G a0 a2 a8) := rfl
        have e0 : (if ¬ C1 a0 a1 then (1 : Int) else if ¬ C2 a5 a6 a7 then 2 else if ¬ C3 a2 a8 then 3 else 0) = 0 := by rw [if_neg (NN h1), if_neg (NN h2), if_neg (NN h3)]
        rw [e0, if_neg (by decide), rnumbers_eq (H := H), Option.bind_some, if_neg (NN h1), if_neg (NN h2), if_neg (NN h3)]
        dsimp only
        rw [two_up, two_up, two_up, two_up, six_nine, wr (A a0 a2 a8 a6 a7 + G a0 a2 a8) (by omega), wr (2 * (A a0 a2 a8 a6 a7 + G a0 a2 a8)) (by omega), wr (2 * (A a0 a2 a8 a6 a7 + G a0 a2 a8) + E a6 a7) (by omega)]
        by_cases h4 : UP (2 * (A a0 a2 a8 a6 a7 + G a0 a2 a8) + E a6 a7) a9
        · rw [if_neg (NN h4), if_neg (NN h4), wr (a9 + E a6 a7) (by omega)]
          by_cases h5 : UP (a9 + E a6 a7) a4
          · rw [if_neg (NN h5), if_neg (NN h5), wr (2 * G a0 a2 a8) (by omega), wr (A a0 a2 a8 a6 a7 + 2 * G a0 a2 a8) (by omega), wr (2 * E a6 a7) (by omega), wr (A a0 a2 a8 a6 a7 + 2 * G a0 a2 a8 + 2 * E a6 a7) (by omega)]
            by_cases h6 : UP (A a0 a2 a8 a6 a7 + 2 * G a0 a2 a8 + 2 * E a6 a7) a10
            · rw [if_neg (NN h6), if_neg (NN h6), wr (a4 + a10) (by omega), wr (a4 + a10 + a9) (by omega)]
              by_cases h7 : UP (a4 + a10 + a9) a3
              · rw [if_neg (NN h7), if_neg (NN h7), wr (a3 + a4) (by omega), wr (2 * a7) (by omega), wr (a3 + a4 + 2 * a7) (by omega), wr (2 * a5) (by omega), wr (a3 + a4 + 2 * a7 + 2 * a5) (by omega), wr (a3 + a4 + 2 * a7 + 2 * a5 + a10) (by omega), wr (a3 + a4 + 2 * a7 + 2 * a5 + a10 + a9) (by omega), wr (a3 + a4 + 2 * a7 + 2 * a5 + a10 + a9 + 8) (by omega)]
                by_cases h8 : a3 + a4 + 2 * (a7 + a5) + a10 + a9 + 8 ≤ a2
                · rw [if_neg (show ¬ a2 < a3 + a4 + 2 * a7 + 2 * a5 + a10 + a9 + 8 by omega), if_neg (NN h8)]
                  by_cases h9 : C9 a12 a13 a14
                  · have q := qb h9
                    have m := mb (x := Q a12 a13 + 3) (r := a0 * a2) (by omega) b
                    rw [if_neg (NN h9), if_neg (NN h9), if_neg (by omega), tdiv_eq (by omega), wr (a12 / a13) (by omega), wr (a12 / a13 * a13) (by omega), wr (a0 * a2) (by omega), wr (64 * (a0 * a2)) (by omega), wr (40 * (a0 * a2)) (by omega), wr (2 * a9) (by omega)]
                    have e : (if a12 / a13 * a13 < a12 then wrap64 (wrap64 (wrap64 (a12 / a13 + 1) + 3) * (a0 * a2)) else wrap64 (wrap64 (a12 / a13 + 3) * (a0 * a2))) = (Q a12 a13 + 3) * (a0 * a2) := by
                      by_cases g : a12 / a13 * a13 < a12
                      · rw [if_pos g, q.2.2.1 g, wr (Q a12 a13) (by omega), wr (Q a12 a13 + 3) (by omega), wr _ (by omega)]
                      · rw [if_neg g, q.2.2.2.1 g, wr (Q a12 a13 + 3) (by omega), wr _ (by omega)]
                    by_cases g : a12 / a13 * a13 < a12
                    · rw [if_pos g] at e ⊢
                      rw [e, wr ((Q a12 a13 + 3) * (a0 * a2) + 2 * a9) (by omega), two_in, two_in]
                      by_cases h10 : (Q a12 a13 + 3) * (a0 * a2) + 2 * a9 ≤ a11 ∧ a11 ≤ 64 * (a0 * a2)
                      · rw [if_neg (NN h10), if_neg (NN h10)]
                        split <;> rfl
                      · rw [if_pos h10, if_pos h10]
                    · rw [if_neg g] at e ⊢
                      rw [e, wr ((Q a12 a13 + 3) * (a0 * a2) + 2 * a9) (by omega), two_in, two_in]
                      by_cases h10 : (Q a12 a13 + 3) * (a0 * a2) + 2 * a9 ≤ a11 ∧ a11 ≤ 64 * (a0 * a2)
                      · rw [if_neg (NN h10), if_neg (NN h10)]
                        split <;> rfl
                      · rw [if_pos h10, if_pos h10]
                  · rw [if_pos h9, if_pos h9]
                · rw [if_pos (show a2 < a3 + a4 + 2 * a7 + 2 * a5 + a10 + a9 + 8 by omega), if_pos h8]
              · rw [if_pos h7, if_pos h7]
            · rw [if_pos h6, if_pos h6]
          · rw [if_pos h5, if_pos h5]
        · rw [if_pos h4, if_pos h4]
      · have e0 : (if ¬ C1 a0 a1 then (1 : Int) else if ¬ C2 a5 a6 a7 then 2 else if ¬ C3 a2 a8 then 3 else 0) = 3 := by rw [if_neg (NN h1), if_neg (NN h2), if_pos h3]
        rw [e0, if_pos (by decide), if_neg (NN h1), if_neg (NN h2), if_pos h3]
    · have e0 : (if ¬ C1 a0 a1 then (1 : Int) else if ¬ C2 a5 a6 a7 then 2 else if ¬ C3 a2 a8 then 3 else 0) = 2 := by rw [if_neg (NN h1), if_pos h2]
      rw [e0, if_pos (by decide), if_neg (NN h1), if_pos h2]
  · have e0 : (if ¬ C1 a0 a1 then (1 : Int) else if ¬ C2 a5 a6 a7 then 2 else if ¬ C3 a2 a8 then 3 else 0) = 1 := by rw [if_pos h1]
    rw [e0, if_pos (by decide), if_pos h1]
theorem rcheck_eq (a0 a1 a2 a3 a4 a5 a6 a7 a8 a9 a10 a11 a12 a13 a14 a15 : Int) : vespersref07_Check.f a0 a1 a2 a3 a4 a5 a6 a7 a8 a9 a10 a11 a12 a13 a14 a15 = some (if FS a0 a1 a2 a3 a4 a5 a6 a7 a8 a9 a10 a11 a12 a13 a14 a15 = 0 then 0 else 70) := by
  unfold vespersref07_Check.f
  have z := fs_nonneg (a0 := a0) (a1 := a1) (a2 := a2) (a3 := a3) (a4 := a4) (a5 := a5) (a6 := a6) (a7 := a7) (a8 := a8) (a9 := a9) (a10 := a10) (a11 := a11) (a12 := a12) (a13 := a13) (a14 := a14) (a15 := a15)
  rw [rfails_eq, Option.bind_some]
  by_cases h : FS a0 a1 a2 a3 a4 a5 a6 a7 a8 a9 a10 a11 a12 a13 a14 a15 = 0
  · rw [if_neg (by omega), if_pos h]
  · rw [if_pos (by omega), if_neg h]
theorem rround_eq (a0 a1 a2 a3 a4 a5 a6 a7 a8 a9 a10 a11 a12 a13 a14 a15 : Int) : vespersref07_Round.f a0 a1 a2 a3 a4 a5 a6 a7 a8 a9 a10 a11 a12 a13 a14 a15 = some (if KN a0 a1 a2 a5 a6 a7 a8 then a0 * a2 else 0) := by
  unfold vespersref07_Round.f
  rw [rfirst_eq, Option.bind_some]
  by_cases H : KN a0 a1 a2 a5 a6 a7 a8
  · have b := rb (n := a0) (s := a2) (by omega) (by omega)
    rw [if_pos H, if_neg (NN H.1), if_neg (NN H.2.1), if_neg (NN H.2.2), if_neg (by decide), wr (a0 * a2) (by omega)]
  · rw [if_neg H, if_pos]
    by_cases h1 : C1 a0 a1
    · rw [if_neg (NN h1)]
      by_cases h2 : C2 a5 a6 a7
      · rw [if_neg (NN h2), if_pos (fun h3 => H ⟨h1, h2, h3⟩)]; decide
      · rw [if_pos h2]; decide
    · rw [if_pos h1]; decide
section
variable (a0 a1 a2 a3 a4 a5 a6 a7 a8 a9 a10 a11 a12 a13 a14 a15 : Int)
theorem rround_ok (h : FS a0 a1 a2 a3 a4 a5 a6 a7 a8 a9 a10 a11 a12 a13 a14 a15 = 0) : vespersref07_Round.f a0 a1 a2 a3 a4 a5 a6 a7 a8 a9 a10 a11 a12 a13 a14 a15 = some (a0 * a2) := by
  have m := may_all (h := h)
  rw [rround_eq, if_pos (by omega)]
variable (r s : Int)
theorem rHas_eq : vespersref09_Has.f a0 a1 a2 a3 a4 a5 a6 a7 a8 a9 a10 a11 a12 a13 a14 a15 r s = some (decide (HAS a0 a1 a2 a3 a4 a5 a6 a7 a8 a9 a10 a11 a12 a13 a14 a15 r s)) := by
  unfold vespersref09_Has.f
  rw [rcheck_eq, Option.bind_some]
  by_cases h : FS a0 a1 a2 a3 a4 a5 a6 a7 a8 a9 a10 a11 a12 a13 a14 a15 = 0
  · rw [if_pos h, if_neg (fun x => x rfl)]
    by_cases h3 : s ≥ 0
    · rw [if_pos h3]
      by_cases h4 : s < a0
      · rw [if_pos h4]
        by_cases h1 : r ≥ 0
        · rw [if_pos h1]; congr 1; rw [decide_eq_decide]; exact ⟨fun x => ⟨h, h1, x, h3, h4⟩, fun x => x.2.2.1⟩
        · rw [if_neg h1]; congr 1; symm; exact decide_eq_false (fun x => h1 x.2.1)
      · rw [if_neg h4]; congr 1; symm; exact decide_eq_false (fun x => h4 x.2.2.2.2)
    · rw [if_neg h3]; congr 1; symm; exact decide_eq_false (fun x => h3 x.2.2.2.1)
  · rw [if_neg h, if_pos (by decide)]; congr 1; symm; exact decide_eq_false (fun x => h x.1)
theorem rBegin_ok (h : HAS a0 a1 a2 a3 a4 a5 a6 a7 a8 a9 a10 a11 a12 a13 a14 a15 r s) : vespersref09_Begin.f a0 a1 a2 a3 a4 a5 a6 a7 a8 a9 a10 a11 a12 a13 a14 a15 r s = some ((r * a0 + s) * a2, 0) := by
  have m := may_all (h := h.1)
  obtain ⟨hf, h1, h2, h3, h4⟩ := id h
  have b := nb (r := r) (n := a0) (s := s) (by omega) (by omega) (by omega)
  have c := mbb (m := r * a0 + s) (a := a2) (by omega) (by omega)
  have c1 := mbb (m := r * a0) (a := a2) (by omega) (by omega)
  have c2 := mbb (m := s) (a := a2) (by omega) (by omega)
  have e : r * (a0 * a2) = r * a0 * a2 := (Int.mul_assoc _ _ _).symm
  have e2 : (r * a0 + s) * a2 = r * a0 * a2 + s * a2 := Int.add_mul _ _ _
  unfold vespersref09_Begin.f
  rw [rHas_eq, decide_eq_true h, go_pos, rround_ok (h := hf), Option.bind_some, e, wr (r * a0 * a2) (by omega), wr (s * a2) (by omega), ← e2, wr _ (by omega)]
theorem rBegin_no (h : ¬ HAS a0 a1 a2 a3 a4 a5 a6 a7 a8 a9 a10 a11 a12 a13 a14 a15 r s) : vespersref09_Begin.f a0 a1 a2 a3 a4 a5 a6 a7 a8 a9 a10 a11 a12 a13 a14 a15 r s = some (0, 90) := by
  unfold vespersref09_Begin.f
  rw [rHas_eq, decide_eq_false h, go_neg]
theorem rSends_ok (h : HAS a0 a1 a2 a3 a4 a5 a6 a7 a8 a9 a10 a11 a12 a13 a14 a15 r s) : vespersref09_Sends.f a0 a1 a2 a3 a4 a5 a6 a7 a8 a9 a10 a11 a12 a13 a14 a15 r s = some ((r * a0 + s) * a2 + a3, 0) := by
  have m := may_all (h := h.1)
  obtain ⟨hf, h1, h2, h3, h4⟩ := id h
  have b := nb (r := r) (n := a0) (s := s) (by omega) (by omega) (by omega)
  have c := mbb (m := r * a0 + s) (a := a2) (by omega) (by omega)
  unfold vespersref09_Sends.f
  rw [rBegin_ok (h := h), Option.bind_some, if_neg (fun x => x rfl), wr _ (by dsimp only; omega)]
theorem rSends_no (h : ¬ HAS a0 a1 a2 a3 a4 a5 a6 a7 a8 a9 a10 a11 a12 a13 a14 a15 r s) : vespersref09_Sends.f a0 a1 a2 a3 a4 a5 a6 a7 a8 a9 a10 a11 a12 a13 a14 a15 r s = some (0, 90) := by
  unfold vespersref09_Sends.f
  rw [rBegin_no (h := h)]
  rfl
theorem rMiddle_ok (h : FS a0 a1 a2 a3 a4 a5 a6 a7 a8 a9 a10 a11 a12 a13 a14 a15 = 0) : vespersref09_Middle.f a0 a1 a2 a3 a4 a5 a6 a7 a8 a9 a10 a11 a12 a13 a14 a15 = some ((a6 + a7) / 2) := by
  have m := may_all (h := h)
  unfold vespersref09_Middle.f
  rw [rcheck_eq, if_pos h, Option.bind_some, if_neg (fun x => x rfl), wr (a7 - a6) (by omega), tdiv_eq (by omega), wr ((a7 - a6) / 2) (by omega), wr _ (by omega)]
  congr 1
  omega
theorem rMiddle_no (h : ¬ FS a0 a1 a2 a3 a4 a5 a6 a7 a8 a9 a10 a11 a12 a13 a14 a15 = 0) : vespersref09_Middle.f a0 a1 a2 a3 a4 a5 a6 a7 a8 a9 a10 a11 a12 a13 a14 a15 = some 0 := by
  unfold vespersref09_Middle.f
  rw [rcheck_eq, if_neg h, Option.bind_some, if_pos (by decide)]
theorem rExpected_ok (h : HAS a0 a1 a2 a3 a4 a5 a6 a7 a8 a9 a10 a11 a12 a13 a14 a15 r s) : vespersref09_Expected.f a0 a1 a2 a3 a4 a5 a6 a7 a8 a9 a10 a11 a12 a13 a14 a15 r s = some ((r * a0 + s) * a2 + a3 + (a6 + a7) / 2, (r * a0 + s) * a2 + a3 + (a6 + a7) / 2 - a4, (r * a0 + s) * a2 + a3 + (a6 + a7) / 2 + a4, 0) := by
  have m := may_all (h := h.1)
  obtain ⟨hf, h1, h2, h3, h4⟩ := id h
  have b := nb (r := r) (n := a0) (s := s) (by omega) (by omega) (by omega)
  have c := mbb (m := r * a0 + s) (a := a2) (by omega) (by omega)
  unfold vespersref09_Expected.f
  rw [rSends_ok (h := h), Option.bind_some, if_neg (fun x => x rfl), rMiddle_ok (h := hf), Option.bind_some]
  dsimp only
  rw [wr ((r * a0 + s) * a2 + a3 + (a6 + a7) / 2) (by omega), wr (_ - a4) (by omega), wr (_ + a4) (by omega)]
theorem rExpected_no (h : ¬ HAS a0 a1 a2 a3 a4 a5 a6 a7 a8 a9 a10 a11 a12 a13 a14 a15 r s) : vespersref09_Expected.f a0 a1 a2 a3 a4 a5 a6 a7 a8 a9 a10 a11 a12 a13 a14 a15 r s = some (0, 0, 0, 90) := by
  unfold vespersref09_Expected.f
  rw [rSends_no (h := h)]
  rfl
end
section
variable (a0 a1 a2 a3 a4 a5 a6 a7 a8 a9 a10 a11 a12 a13 a14 a15 : Int) (n : Int)
theorem has_any (x y : Int) (hx : 0 ≤ x ∧ x ≤ 2147483647) (hy : 0 ≤ y ∧ y ≤ 2147483647) : HAS a0 a1 a2 a3 a4 a5 a6 a7 a8 a9 a10 a11 a12 a13 a14 a15 x n ↔ HAS a0 a1 a2 a3 a4 a5 a6 a7 a8 a9 a10 a11 a12 a13 a14 a15 y n := ⟨fun h => ⟨h.1, hy.1, hy.2, h.2.2.2⟩, fun h => ⟨h.1, hx.1, hx.2, h.2.2.2⟩⟩
end
section
variable (a0 a1 a2 a3 a4 a5 a6 a7 a8 a9 a10 a11 a12 a13 a14 a15 : Int)
theorem rOf_loop (rd v : Int) (h2 : 1 ≤ a2 ∧ a2 ≤ 1048576) (hv : 0 ≤ v ∧ v < a2) : ∀ (k : Nat) (s : Int), 0 ≤ s → k ≤ 16 → s + k ≤ 64 → rounds vespersref09_Of.step0 (a2 * k + v, a0, a1, a2, a3, a4, a5, a6, a7, a8, a9, a10, a11, a12, a13, a14, a15, rd, s) = some (.inl (v, a0, a1, a2, a3, a4, a5, a6, a7, a8, a9, a10, a11, a12, a13, a14, a15, rd, s + k)) := by
  intro k
  induction k with
  | zero =>
    intro s hs _ hk
    apply rounds_end
    unfold vespersref09_Of.step0
    dsimp only
    rw [if_neg (by simp; omega)]
    simp
  | succ k ih =>
    intro s hs hk2 hk
    have e : a2 * ((k + 1 : Nat) : Int) + v = a2 * k + v + a2 := by
      rw [Int.natCast_add, Int.mul_add]
      simp
      omega
    have b : 0 ≤ a2 * (k : Int) := Int.mul_nonneg (by omega) (by omega)
    have b2 : a2 * (k : Int) ≤ 1048576 * 16 := Int.mul_le_mul h2.2 (by omega) (by omega) (by omega)
    have st : vespersref09_Of.step0 (a2 * ((k + 1 : Nat) : Int) + v, a0, a1, a2, a3, a4, a5, a6, a7, a8, a9, a10, a11, a12, a13, a14, a15, rd, s) = some (.inl (a2 * k + v, a0, a1, a2, a3, a4, a5, a6, a7, a8, a9, a10, a11, a12, a13, a14, a15, rd, s + 1)) := by
      unfold vespersref09_Of.step0
      dsimp only
      rw [e, if_pos (by omega), wr (a2 * k + v + a2 - a2) (by omega), wr (s + 1) (by omega)]
      congr 3
      omega
    rw [rounds_next st, ih (s + 1) (by omega) (by omega) (by omega), show s + 1 + (k : Int) = s + ((k + 1 : Nat) : Int) by omega]
theorem rOf_ok (h : FS a0 a1 a2 a3 a4 a5 a6 a7 a8 a9 a10 a11 a12 a13 a14 a15 = 0) (L : Int) (h0 : 0 ≤ L) (h1 : L ≤ 2147483647 * (a0 * a2)) : vespersref09_Of.f a0 a1 a2 a3 a4 a5 a6 a7 a8 a9 a10 a11 a12 a13 a14 a15 L = some (L / a2 / a0, (L / a2) % a0, 0) := by
  have m := may_all (h := h)
  have b := rb (n := a0) (s := a2) (by omega) (by omega)
  have d0 : 0 ≤ L / a2 := Int.ediv_nonneg h0 (by omega)
  have d1 : L / a2 ≤ L := Int.ediv_le_self _ h0
  have d2 : 0 ≤ L / a2 / a0 := Int.ediv_nonneg d0 (by omega)
  have d3 : L / a2 / a0 ≤ L / a2 := Int.ediv_le_self _ d0
  have v0 : 0 ≤ L % a2 := Int.emod_nonneg _ (by omega)
  have v1 : L % a2 < a2 := Int.emod_lt_of_pos _ (by omega)
  have y0 : 0 ≤ (L / a2) % a0 := Int.emod_nonneg _ (by omega)
  have y1 : (L / a2) % a0 < a0 := Int.emod_lt_of_pos _ (by omega)
  have eL : a2 * (L / a2) + L % a2 = L := Int.mul_ediv_add_emod L a2
  have eU : a0 * (L / a2 / a0) + (L / a2) % a0 = L / a2 := Int.mul_ediv_add_emod (L / a2) a0
  generalize hu : L / a2 = u at *
  generalize hv : L % a2 = v at *
  generalize hx : u / a0 = x at *
  generalize hy : u % a0 = y at *
  have e1 : a2 * u = x * (a0 * a2) + a2 * y := by
    rw [← eU, Int.mul_add, Int.mul_comm a2 (a0 * x), Int.mul_comm a0 x, Int.mul_assoc]
  have c1 : 0 ≤ a2 * y := Int.mul_nonneg (by omega) y0
  have c2 : a2 * y ≤ a2 * (a0 - 1) := Int.mul_le_mul_of_nonneg_left (by omega) (by omega)
  have c3 : a2 * (a0 - 1) = a0 * a2 - a2 := by rw [Int.mul_sub, Int.mul_one, Int.mul_comm]
  have pb := place_back (r := x) (n := a0 * a2) (s := a2 * y + v) (by omega) (by omega)
  have eq : x * (a0 * a2) + (a2 * y + v) = L := by omega
  rw [eq] at pb
  unfold vespersref09_Of.f
  rw [rround_ok (h := h), Option.bind_some, rcheck_eq, if_pos h, Option.bind_some, if_neg (fun z => z rfl), if_neg (by omega), wr (2147483647 * (a0 * a2)) (by omega), if_neg (by omega), if_neg (by omega), if_neg (by omega), guardEq_self, Int.tmod_eq_emod_of_nonneg h0, tdiv_eq h0, pb.1, pb.2, wr x (by omega)]
  obtain ⟨k, hk⟩ : ∃ k : Nat, y = (k : Int) := ⟨y.toNat, by omega⟩
  have lp := rOf_loop (a0 := a0) (a1 := a1) (a2 := a2) (a3 := a3) (a4 := a4) (a5 := a5) (a6 := a6) (a7 := a7) (a8 := a8) (a9 := a9) (a10 := a10) (a11 := a11) (a12 := a12) (a13 := a13) (a14 := a14) (a15 := a15) x v (by omega) ⟨v0, v1⟩ k 0 (by omega) (by omega) (by omega)
  rw [hk, lp, Option.bind_some]
  simp
theorem rOf_low (h : FS a0 a1 a2 a3 a4 a5 a6 a7 a8 a9 a10 a11 a12 a13 a14 a15 = 0) (L : Int) (h0 : L < 0) : vespersref09_Of.f a0 a1 a2 a3 a4 a5 a6 a7 a8 a9 a10 a11 a12 a13 a14 a15 L = some (0, 0, 90) := by
  unfold vespersref09_Of.f
  rw [rround_ok (h := h), Option.bind_some, rcheck_eq, if_pos h, Option.bind_some, if_neg (fun z => z rfl), if_pos h0]
theorem rOf_high (h : FS a0 a1 a2 a3 a4 a5 a6 a7 a8 a9 a10 a11 a12 a13 a14 a15 = 0) (L : Int) (h0 : ¬ L < 0) (h1 : 2147483647 * (a0 * a2) < L) : vespersref09_Of.f a0 a1 a2 a3 a4 a5 a6 a7 a8 a9 a10 a11 a12 a13 a14 a15 L = some (0, 0, 90) := by
  have m := may_all (h := h)
  have b := rb (n := a0) (s := a2) (by omega) (by omega)
  unfold vespersref09_Of.f
  rw [rround_ok (h := h), Option.bind_some, rcheck_eq, if_pos h, Option.bind_some, if_neg (fun z => z rfl), if_neg h0, wr (2147483647 * (a0 * a2)) (by omega), if_pos (by omega)]
theorem rOf_no (h : ¬ FS a0 a1 a2 a3 a4 a5 a6 a7 a8 a9 a10 a11 a12 a13 a14 a15 = 0) (L : Int) : vespersref09_Of.f a0 a1 a2 a3 a4 a5 a6 a7 a8 a9 a10 a11 a12 a13 a14 a15 L = some (0, 0, 90) := by
  unfold vespersref09_Of.f
  rw [rround_eq, Option.bind_some, rcheck_eq, if_neg h, Option.bind_some, if_pos (by decide)]
theorem Of_same (L : Int) : ∃ x, table_Of.f a0 a1 a2 a3 a4 a5 a6 a7 a8 a9 a10 a11 a12 a13 a14 a15 L = some x ∧ vespersref09_Of.f a0 a1 a2 a3 a4 a5 a6 a7 a8 a9 a10 a11 a12 a13 a14 a15 L = some x := by
  by_cases h : FS a0 a1 a2 a3 a4 a5 a6 a7 a8 a9 a10 a11 a12 a13 a14 a15 = 0
  · by_cases h0 : L < 0
    · exact ⟨_, Of_low (h := h) (h0 := h0), rOf_low (h := h) (h0 := h0)⟩
    · by_cases h1 : 2147483647 * (a0 * a2) < L
      · exact ⟨_, Of_high (h := h) (h1 := h1), rOf_high (h := h) (h0 := h0) (h1 := h1)⟩
      · exact ⟨_, Of_ok (h := h) (h0 := by omega) (h1 := by omega), rOf_ok (h := h) (h0 := by omega) (h1 := by omega)⟩
  · exact ⟨_, Of_no (h := h) (L := L), rOf_no (h := h) (L := L)⟩
end
/- Readings that are kept, by their deviations, in order. -/
def kp (m w : Int) : List Int → Option (List Int)
  | [] => some []
  | t :: l => if MAY t then (kp m w l).map fun ds => if VER t m w = 2 then (t - m) :: ds else ds else none
theorem kp_cons (m w t : Int) (l : List Int) : kp m w (t :: l) = if MAY t then (kp m w l).map fun ds => if VER t m w = 2 then (t - m) :: ds else ds else none := rfl
theorem ver0 (t m w : Int) : VER t m w ≠ 0 := by
  unfold VER
  split
  · decide
  · split <;> decide
theorem kp_len (m w : Int) : ∀ (l : List Int) (ds : List Int), kp m w l = some ds → ds.length ≤ l.length
  | [], ds, h => by
    cases h
    exact Nat.le_refl _
  | t :: l, ds, h => by
    rw [kp_cons] at h
    split at h
    · obtain ⟨d, hd, e⟩ := Option.map_eq_some_iff.1 h
      have := kp_len m w l d hd
      subst e
      split
      · simp; exact this
      · simp; omega
    · cases h
theorem kp_append (m w : Int) : ∀ (l k : List Int), kp m w (l ++ k) = (kp m w l).bind fun a => (kp m w k).map fun b => a ++ b
  | [], k => by
    show kp m w k = (kp m w k).map fun b => [] ++ b
    simp
  | t :: l, k => by
    rw [List.cons_append, kp_cons, kp_cons, kp_append m w l k]
    by_cases h : MAY t
    · rw [if_pos h, if_pos h]
      cases kp m w l with
      | none => rfl
      | some a =>
        simp only [Option.bind_some, Option.map_some]
        cases kp m w k with
        | none => rfl
        | some b =>
          simp only [Option.map_some]
          split <;> rfl
    · rw [if_neg h, if_neg h]
      rfl
theorem getI (l : List Int) (i : Nat) (h : i < l.length) : l.getD (Int.toNat (i : Int)) (SX.Ty.dflt (.int .i64)) = l[i] := by
  show l.getD (Int.toNat (i : Int)) (0 : Int) = l[i]
  rw [Int.toNat_natCast, List.getD_eq_getElem?_getD, List.getElem?_eq_getElem h]
  rfl
theorem same_loop (x y : List Int) (hl : x.length = y.length) (hb : x.length ≤ 1000) : ∀ (k i : Nat), i + k = x.length →
    rounds vespersref16_Same.step0 ((i : Int), x, y) = if x.drop i = y.drop i then some (.inl ((x.length : Int), x, y)) else some (.inr ()) := by
  intro k
  induction k with
  | zero =>
    intro i hi
    have e : i = x.length := by omega
    subst e
    rw [if_pos (by rw [List.drop_of_length_le (Nat.le_refl _), List.drop_of_length_le (by omega)])]
    apply rounds_end
    unfold vespersref16_Same.step0
    dsimp only
    rw [if_neg (by show ¬ ((x.length : Int) < (x.length : Int)); omega)]
  | succ k ih =>
    intro i hi
    have h1 : i < x.length := by omega
    have h2 : i < y.length := by omega
    rw [List.drop_eq_getElem_cons h1, List.drop_eq_getElem_cons h2]
    by_cases g : x[i] = y[i]
    · have st : vespersref16_Same.step0 ((i : Int), x, y) = some (.inl (((i + 1 : Nat) : Int), x, y)) := by
        unfold vespersref16_Same.step0
        dsimp only
        rw [if_pos (by show (i : Int) < (x.length : Int); omega), if_pos (by show 0 ≤ (i : Int) ∧ (i : Int) < (x.length : Int); omega), if_pos (by show 0 ≤ (i : Int) ∧ (i : Int) < (y.length : Int); omega), getI x i h1, getI y i h2, if_neg (fun z => z g), wr _ (by omega)]
        rfl
      rw [rounds_next st, ih (i + 1) (by omega)]
      by_cases g2 : x.drop (i + 1) = y.drop (i + 1)
      · rw [if_pos g2, if_pos (by rw [g, g2])]
      · rw [if_neg g2, if_neg (fun z => g2 (List.cons.inj z).2)]
    · rw [if_neg (fun z => g (List.cons.inj z).1)]
      apply rounds_end
      unfold vespersref16_Same.step0
      dsimp only
      rw [if_pos (by show (i : Int) < (x.length : Int); omega), if_pos (by show 0 ≤ (i : Int) ∧ (i : Int) < (x.length : Int); omega), if_pos (by show 0 ≤ (i : Int) ∧ (i : Int) < (y.length : Int); omega), getI x i h1, getI y i h2, if_pos g]
theorem same_eq (x y : List Int) (hb : x.length ≤ 1000) : vespersref16_Same.f (x, y) = some (decide (x = y)) := by
  unfold vespersref16_Same.f
  dsimp only
  by_cases hl : x.length = y.length
  · rw [if_neg (by show ¬ ((x.length : Int) ≠ (y.length : Int)); omega), guardEq_self]
    have := same_loop x y hl hb x.length 0 (by omega)
    simp only [List.drop_zero, Int.natCast_zero] at this
    rw [show rounds vespersref16_Same.step0 (0, x, y) = _ from this]
    by_cases g : x = y
    · rw [if_pos g, Option.bind_some, decide_eq_true g]
    · rw [if_neg g, Option.bind_some, decide_eq_false g]
  · rw [if_pos (by show (x.length : Int) ≠ (y.length : Int); omega), decide_eq_false (fun z => hl (by rw [z]))]
section
variable (a0 a1 a2 a3 a4 a5 a6 a7 a8 a9 a10 a11 a12 a13 a14 a15 : Int)
theorem judged_loop (r s : Int) (h : HAS a0 a1 a2 a3 a4 a5 a6 a7 a8 a9 a10 a11 a12 a13 a14 a15 r s) (l : List Int) (hb : l.length ≤ 50) : ∀ (k i : Nat) (out : List Int), i + k = l.length → out.length ≤ i →
    rounds window_judged_1.step0 ((i : Int), Int.ofNat l.length, l, l, r, s, a0, a1, a2, a3, a4, a5, a6, a7, a8, a9, a10, a11, a12, a13, a14, a15, out, 0) = match kp ((r * a0 + s) * a2 + a3 + (a6 + a7) / 2) a4 (l.drop i) with
      | some ds => some (.inl (Int.ofNat l.length, Int.ofNat l.length, l, l, r, s, a0, a1, a2, a3, a4, a5, a6, a7, a8, a9, a10, a11, a12, a13, a14, a15, out ++ ds, 0))
      | none => some (.inr ()) := by
  intro k
  induction k with
  | zero =>
    intro i out hi ho
    have e : i = l.length := by omega
    subst e
    rw [List.drop_of_length_le (Nat.le_refl _)]
    show _ = some (Sum.inl (Int.ofNat l.length, Int.ofNat l.length, l, l, r, s, a0, a1, a2, a3, a4, a5, a6, a7, a8, a9, a10, a11, a12, a13, a14, a15, out ++ [], 0))
    rw [List.append_nil]
    apply rounds_end
    unfold window_judged_1.step0
    dsimp only
    rw [if_neg (by show ¬ ((l.length : Int) < (l.length : Int)); omega)]
    rfl
  | succ k ih =>
    intro i out hi ho
    have h1 : i < l.length := by omega
    rw [List.drop_eq_getElem_cons h1]
    have st : window_judged_1.step0 ((i : Int), Int.ofNat l.length, l, l, r, s, a0, a1, a2, a3, a4, a5, a6, a7, a8, a9, a10, a11, a12, a13, a14, a15, out, 0) = ((window_Judge.f a0 a1 a2 a3 a4 a5 a6 a7 a8 a9 a10 a11 a12 a13 a14 a15 r s l[i]).bind fun t0 => (if t0.fst = 0 then some (Sum.inr (Sum.inr ())) else (if t0.fst = 2 then some (Sum.inl (((i + 1 : Nat) : Int), Int.ofNat l.length, l, l, r, s, a0, a1, a2, a3, a4, a5, a6, a7, a8, a9, a10, a11, a12, a13, a14, a15, out ++ [t0.snd.fst], 0)) else some (Sum.inl (((i + 1 : Nat) : Int), Int.ofNat l.length, l, l, r, s, a0, a1, a2, a3, a4, a5, a6, a7, a8, a9, a10, a11, a12, a13, a14, a15, out, 0))))) := by
      unfold window_judged_1.step0
      dsimp only
      rw [if_pos (by show (i : Int) < (l.length : Int); omega), if_pos (by show 0 ≤ (i : Int) ∧ (i : Int) < (l.length : Int); omega), getI l i h1, wr ((i : Int) + 1) (by omega)]
      refine congrArg (Option.bind (window_Judge.f a0 a1 a2 a3 a4 a5 a6 a7 a8 a9 a10 a11 a12 a13 a14 a15 r s l[i])) (funext fun t0 => ?_)
      rw [if_pos (show Int.ofNat out.length + 1 ≤ 15637498706147 by show (out.length : Int) + 1 ≤ 15637498706147; omega)]
      rfl
    by_cases g : MAY l[i]
    · rw [Judge_ok (h := h) (ht := g), Option.bind_some] at st
      dsimp only at st
      rw [if_neg (ver0 _ _ _)] at st
      rw [kp_cons, if_pos g]
      by_cases g2 : VER l[i] ((r * a0 + s) * a2 + a3 + (a6 + a7) / 2) a4 = 2
      · rw [if_pos g2] at st
        rw [rounds_next st, ih (i + 1) _ (by omega) (by simp; omega)]
        cases kp ((r * a0 + s) * a2 + a3 + (a6 + a7) / 2) a4 (l.drop (i + 1)) with
        | none => rfl
        | some ds =>
          simp only [Option.map_some]
          rw [if_pos g2, List.append_assoc]
          rfl
      · rw [if_neg g2] at st
        rw [rounds_next st, ih (i + 1) _ (by omega) (by omega)]
        cases kp ((r * a0 + s) * a2 + a3 + (a6 + a7) / 2) a4 (l.drop (i + 1)) with
        | none => rfl
        | some ds =>
          simp only [Option.map_some]
          rw [if_neg g2]
    · rw [Judge_no (h := fun z => g z.2), Option.bind_some] at st
      dsimp only at st
      rw [if_pos rfl] at st
      rw [kp_cons, if_neg g]
      exact rounds_end st
theorem Keep_ok (r s : Int) (h : HAS a0 a1 a2 a3 a4 a5 a6 a7 a8 a9 a10 a11 a12 a13 a14 a15 r s) (l : List Int) (hb : l.length ≤ 50) : window_Keep.f (a0, a1, a2, a3, a4, a5, a6, a7, a8, a9, a10, a11, a12, a13, a14, a15, r, s, l) = match kp ((r * a0 + s) * a2 + a3 + (a6 + a7) / 2) a4 l with
      | some ds => some (0, ds)
      | none => some (160, []) := by
  unfold window_Keep.f
  dsimp only
  rw [Begin_ok (h := h), Option.bind_some]
  dsimp only
  rw [if_neg (fun z => z rfl), guardEq_self]
  have := judged_loop a0 a1 a2 a3 a4 a5 a6 a7 a8 a9 a10 a11 a12 a13 a14 a15 r s h l hb l.length 0 [] (by omega) (Nat.le_refl _)
  simp only [List.drop_zero, Int.natCast_zero] at this
  rw [show rounds window_judged_1.step0 (0, Int.ofNat l.length, l, l, r, s, a0, a1, a2, a3, a4, a5, a6, a7, a8, a9, a10, a11, a12, a13, a14, a15, [], 0) = _ from this]
  cases kp ((r * a0 + s) * a2 + a3 + (a6 + a7) / 2) a4 l with
  | none => rfl
  | some ds =>
    dsimp only
    rw [Option.bind_some]
    dsimp only
    rw [SX.sameO_self]
    rfl
theorem Keep_no (r s : Int) (h : ¬ HAS a0 a1 a2 a3 a4 a5 a6 a7 a8 a9 a10 a11 a12 a13 a14 a15 r s) (l : List Int) : window_Keep.f (a0, a1, a2, a3, a4, a5, a6, a7, a8, a9, a10, a11, a12, a13, a14, a15, r, s, l) = some (160, []) := by
  unfold window_Keep.f
  dsimp only
  rw [Begin_no (h := h), Option.bind_some]
  dsimp only
  rw [if_pos (by decide)]
end
section
variable (a0 a1 a2 a3 a4 a5 a6 a7 a8 a9 a10 a11 a12 a13 a14 a15 : Int)
theorem rJudge_ok (r s t : Int) (h : HAS a0 a1 a2 a3 a4 a5 a6 a7 a8 a9 a10 a11 a12 a13 a14 a15 r s) (ht : MAY t) : vespersref16_Judge.f a0 a1 a2 a3 a4 a5 a6 a7 a8 a9 a10 a11 a12 a13 a14 a15 r s t = some (VER t (((r * a0 + s) * a2 + a3 + (a6 + a7) / 2)) a4, t - ((r * a0 + s) * a2 + a3 + (a6 + a7) / 2), 0) := by
  have m := may_all (h := h.1)
  have b := mid_b (h := h)
  unfold vespersref16_Judge.f VER
  rw [rExpected_ok (h := h), Option.bind_some]
  dsimp only
  rw [if_neg (by decide), if_neg (by omega), if_neg (by omega), wr (t - _) (by omega), wr (0 - a4) (by omega)]
  by_cases g : t < ((r * a0 + s) * a2 + a3 + (a6 + a7) / 2) - a4
  · rw [if_pos (by omega), if_pos g]
  · rw [if_neg (by omega), if_neg g]
    by_cases g2 : t > ((r * a0 + s) * a2 + a3 + (a6 + a7) / 2) + a4
    · rw [if_pos (by omega), if_pos g2]
    · rw [if_neg (by omega), if_neg g2]
theorem rJudge_no (r s t : Int) (h : ¬ (HAS a0 a1 a2 a3 a4 a5 a6 a7 a8 a9 a10 a11 a12 a13 a14 a15 r s ∧ MAY t)) : vespersref16_Judge.f a0 a1 a2 a3 a4 a5 a6 a7 a8 a9 a10 a11 a12 a13 a14 a15 r s t = some (0, 0, 160) := by
  unfold vespersref16_Judge.f
  by_cases g : HAS a0 a1 a2 a3 a4 a5 a6 a7 a8 a9 a10 a11 a12 a13 a14 a15 r s
  · rw [rExpected_ok (h := g), Option.bind_some]
    dsimp only
    rw [if_neg (by decide)]
    by_cases g1 : t < -4294967296
    · rw [if_pos g1]
    · rw [if_neg g1, if_pos (by
        have : ¬ MAY t := fun x => h ⟨g, x⟩
        omega)]
  · rw [rExpected_no (h := g), Option.bind_some]
    dsimp only
    rw [if_pos (by decide)]
theorem Judge_same (r s t : Int) : ∃ x, window_Judge.f a0 a1 a2 a3 a4 a5 a6 a7 a8 a9 a10 a11 a12 a13 a14 a15 r s t = some x ∧ vespersref16_Judge.f a0 a1 a2 a3 a4 a5 a6 a7 a8 a9 a10 a11 a12 a13 a14 a15 r s t = some x := by
  by_cases h : HAS a0 a1 a2 a3 a4 a5 a6 a7 a8 a9 a10 a11 a12 a13 a14 a15 r s ∧ MAY t
  · exact ⟨_, Judge_ok (h := h.1) (ht := h.2), rJudge_ok (h := h.1) (ht := h.2)⟩
  · exact ⟨_, Judge_no (h := h), rJudge_no (h := h)⟩
theorem Place_same (t : Int) : ∃ x, window_Place.f a0 a1 a2 a3 a4 a5 a6 a7 a8 a9 a10 a11 a12 a13 a14 a15 t = some x ∧ vespersref16_Place.f a0 a1 a2 a3 a4 a5 a6 a7 a8 a9 a10 a11 a12 a13 a14 a15 t = some x := by
  obtain ⟨x, h1, h2⟩ := Of_same a0 a1 a2 a3 a4 a5 a6 a7 a8 a9 a10 a11 a12 a13 a14 a15 t
  obtain ⟨y, h3, h4⟩ := Judge_same a0 a1 a2 a3 a4 a5 a6 a7 a8 a9 a10 a11 a12 a13 a14 a15 x.1 x.2.1 t
  unfold window_Place.f vespersref16_Place.f
  simp only [h1, h2, Option.bind_some]
  by_cases g : x.2.2 ≠ 0
  · simp only [if_pos g]
    exact ⟨_, rfl, rfl⟩
  · simp only [if_neg g, h3, h4, Option.bind_some]
    by_cases g1 : y.2.2 ≠ 0
    · simp only [if_pos g1]
      exact ⟨_, rfl, rfl⟩
    · simp only [if_neg g1]
      by_cases g2 : y.1 ≠ 2
      · simp only [if_pos g2]
        exact ⟨_, rfl, rfl⟩
      · simp only [if_neg g2]
        exact ⟨_, rfl, rfl⟩
theorem ref_loop (r s : Int) (h : HAS a0 a1 a2 a3 a4 a5 a6 a7 a8 a9 a10 a11 a12 a13 a14 a15 r s) (l : List Int) (hb : l.length ≤ 50) : ∀ (k i : Nat) (out : List Int), i + k = l.length → out.length ≤ i →
    rounds vespersref16_Keep.step0 ((i : Int), l, out, a0, a1, a2, a3, a4, a5, a6, a7, a8, a9, a10, a11, a12, a13, a14, a15, r, s) = match kp ((r * a0 + s) * a2 + a3 + (a6 + a7) / 2) a4 (l.drop i) with
      | some ds => some (.inl (Int.ofNat l.length, l, out ++ ds, a0, a1, a2, a3, a4, a5, a6, a7, a8, a9, a10, a11, a12, a13, a14, a15, r, s))
      | none => some (.inr ()) := by
  intro k
  induction k with
  | zero =>
    intro i out hi ho
    have e : i = l.length := by omega
    subst e
    rw [List.drop_of_length_le (Nat.le_refl _)]
    show _ = some (Sum.inl (Int.ofNat l.length, l, out ++ [], a0, a1, a2, a3, a4, a5, a6, a7, a8, a9, a10, a11, a12, a13, a14, a15, r, s))
    rw [List.append_nil]
    apply rounds_end
    unfold vespersref16_Keep.step0
    dsimp only
    rw [if_neg (by show ¬ ((l.length : Int) < (l.length : Int)); omega)]
    rfl
  | succ k ih =>
    intro i out hi ho
    have h1 : i < l.length := by omega
    rw [List.drop_eq_getElem_cons h1]
    have st : vespersref16_Keep.step0 ((i : Int), l, out, a0, a1, a2, a3, a4, a5, a6, a7, a8, a9, a10, a11, a12, a13, a14, a15, r, s) = ((vespersref16_Judge.f a0 a1 a2 a3 a4 a5 a6 a7 a8 a9 a10 a11 a12 a13 a14 a15 r s l[i]).bind fun t0 => (if t0.snd.snd ≠ 0 then some (Sum.inr (Sum.inr ())) else (if t0.fst = 2 then some (Sum.inl (((i + 1 : Nat) : Int), l, out ++ [t0.snd.fst], a0, a1, a2, a3, a4, a5, a6, a7, a8, a9, a10, a11, a12, a13, a14, a15, r, s)) else some (Sum.inl (((i + 1 : Nat) : Int), l, out, a0, a1, a2, a3, a4, a5, a6, a7, a8, a9, a10, a11, a12, a13, a14, a15, r, s))))) := by
      unfold vespersref16_Keep.step0
      dsimp only
      rw [if_pos (by show (i : Int) < (l.length : Int); omega), if_pos (by show 0 ≤ (i : Int) ∧ (i : Int) < (l.length : Int); omega), getI l i h1, wr ((i : Int) + 1) (by omega)]
      refine congrArg (Option.bind (vespersref16_Judge.f a0 a1 a2 a3 a4 a5 a6 a7 a8 a9 a10 a11 a12 a13 a14 a15 r s l[i])) (funext fun t0 => ?_)
      rw [if_pos (show Int.ofNat out.length + 1 ≤ 15637498706147 by show (out.length : Int) + 1 ≤ 15637498706147; omega)]
      rfl
    by_cases g : MAY l[i]
    · rw [rJudge_ok (h := h) (ht := g), Option.bind_some] at st
      dsimp only at st
      rw [if_neg (fun z => z rfl)] at st
      rw [kp_cons, if_pos g]
      by_cases g2 : VER l[i] ((r * a0 + s) * a2 + a3 + (a6 + a7) / 2) a4 = 2
      · rw [if_pos g2] at st
        rw [rounds_next st, ih (i + 1) _ (by omega) (by simp; omega)]
        cases kp ((r * a0 + s) * a2 + a3 + (a6 + a7) / 2) a4 (l.drop (i + 1)) with
        | none => rfl
        | some ds =>
          simp only [Option.map_some]
          rw [if_pos g2, List.append_assoc]
          rfl
      · rw [if_neg g2] at st
        rw [rounds_next st, ih (i + 1) _ (by omega) (by omega)]
        cases kp ((r * a0 + s) * a2 + a3 + (a6 + a7) / 2) a4 (l.drop (i + 1)) with
        | none => rfl
        | some ds =>
          simp only [Option.map_some]
          rw [if_neg g2]
    · rw [rJudge_no (h := fun z => g z.2), Option.bind_some] at st
      dsimp only at st
      rw [if_pos (by decide)] at st
      rw [kp_cons, if_neg g]
      exact rounds_end st
theorem Keep_same (r s : Int) (l : List Int) (hb : l.length ≤ 50) : ∃ x, window_Keep.f (a0, a1, a2, a3, a4, a5, a6, a7, a8, a9, a10, a11, a12, a13, a14, a15, r, s, l) = some x ∧ vespersref16_Keep.f (a0, a1, a2, a3, a4, a5, a6, a7, a8, a9, a10, a11, a12, a13, a14, a15, r, s, l) = some x ∧ x.2.length ≤ 50 := by
  by_cases h : HAS a0 a1 a2 a3 a4 a5 a6 a7 a8 a9 a10 a11 a12 a13 a14 a15 r s
  · have k := Keep_ok a0 a1 a2 a3 a4 a5 a6 a7 a8 a9 a10 a11 a12 a13 a14 a15 r s h l hb
    have r1 := ref_loop a0 a1 a2 a3 a4 a5 a6 a7 a8 a9 a10 a11 a12 a13 a14 a15 r s h l hb l.length 0 [] (by omega) (Nat.le_refl _)
    simp only [List.drop_zero, Int.natCast_zero] at r1
    have f1 : vespersref16_Keep.f (a0, a1, a2, a3, a4, a5, a6, a7, a8, a9, a10, a11, a12, a13, a14, a15, r, s, l) = (rounds vespersref16_Keep.step0 (0, l, [], a0, a1, a2, a3, a4, a5, a6, a7, a8, a9, a10, a11, a12, a13, a14, a15, r, s)).bind fun t1 => (match t1 with | .inl x2 => some ((0 : Int), x2.snd.snd.fst) | .inr y2 => some ((160 : Int), [])) := by
      unfold vespersref16_Keep.f
      dsimp only
      rw [rHas_eq, decide_eq_true h, Option.bind_some, if_neg (by decide), guardEq_self]
      rfl
    rw [show rounds vespersref16_Keep.step0 (0, l, [], a0, a1, a2, a3, a4, a5, a6, a7, a8, a9, a10, a11, a12, a13, a14, a15, r, s) = _ from r1] at f1
    cases hkp : kp ((r * a0 + s) * a2 + a3 + (a6 + a7) / 2) a4 l with
    | none =>
      rw [hkp] at k f1
      exact ⟨_, k, f1, by show ([] : List Int).length ≤ 50; simp⟩
    | some ds =>
      rw [hkp] at k f1
      have := kp_len _ _ _ _ hkp
      exact ⟨_, k, f1, by show ds.length ≤ 50; omega⟩
  · refine ⟨(160, []), Keep_no a0 a1 a2 a3 a4 a5 a6 a7 a8 a9 a10 a11 a12 a13 a14 a15 r s h l, ?_, by simp⟩
    unfold vespersref16_Keep.f
    dsimp only
    rw [rHas_eq, decide_eq_false h, Option.bind_some, if_pos (by decide)]
end
theorem proved : vesperslaw16_WindowJudges.Pure := by
  intro a0 a1 a2 a3 a4 a5 a6 a7 a8 a9 a10 a11 a12 a13 a14 a15 r s t l w0 w1 w2 w3 w4 w5 w6 w7 w8 w9 w10 w11 w12 w13 w14 w15 wr0 wr1 wt wl
  unfold vesperslaw16_WindowJudges.f
  by_cases hb : l.length ≤ 50
  · obtain ⟨j, j1, j2⟩ := Judge_same a0 a1 a2 a3 a4 a5 a6 a7 a8 a9 a10 a11 a12 a13 a14 a15 r s t
    obtain ⟨p, p1, p2⟩ := Place_same a0 a1 a2 a3 a4 a5 a6 a7 a8 a9 a10 a11 a12 a13 a14 a15 t
    obtain ⟨k, k1, k2, k3⟩ := Keep_same a0 a1 a2 a3 a4 a5 a6 a7 a8 a9 a10 a11 a12 a13 a14 a15 r s l hb
    have s1 : vespersref16_Same.f (k.2, k.2) = some true := by rw [same_eq _ _ (by omega)]; simp
    have s2 : vespersref16_Same.f (l, l) = some true := by rw [same_eq _ _ (by omega)]; simp
    rw [if_neg (by show ¬ ((l.length : Int) > 50); omega), j1, Option.bind_some, j2, Option.bind_some, p1, Option.bind_some, p2, Option.bind_some, if_pos (by show 0 + (l.length : Int) ≤ 15637498706147; omega), List.nil_append, k1, Option.bind_some, k2, Option.bind_some]
    clear j1 j2 p1 p2 k1 k2
    rcases Int.lt_trichotomy t 0 with g | g | g
    · have g1 : ¬ t > 0 := by omega
      have g2 : ¬ t = 0 := by omega
      simp [g, g1, g2, s1, s2]
    · subst g
      simp [s1, s2]
    · have g1 : ¬ t < 0 := by omega
      have g2 : ¬ t = 0 := by omega
      have g3 : t > 0 := g
      simp [g1, g2, g3, s1, s2]
  · rw [if_pos (by show (l.length : Int) > 50; omega)]
end LWindowJudges
end Go.Proofs.Ytlekjgjhbanimaa.Pure
