/- A message that was put comes out at the first reading that is its time, or behind it; put again then, or at a reading that is less than a round less, it is late. -/
import Derived.Test.YtaoplfmaiclfkaaTTimes
namespace Go.Proofs.Ytaoplfmaiclfkaa.Pure
open Go Go.RowKit Go.Proofs.Ytaoplfmaiclfkaa.S
open Go.Proofs.Ytaoplfmaiclfkaa.SX (guardEq_self rounds rounds_next rounds_end)
set_option linter.unusedVariables false
set_option linter.unusedSimpArgs false
namespace LHoldbackTimes
theorem wr (x : Int) (h : -9223372036854775808 ≤ x ∧ x ≤ 9223372036854775807) : wrap64 x = x := by unfold wrap64; omega
theorem tdiv_eq {x y : Int} (hx : 0 ≤ x) : Int.tdiv x y = x / y := Int.tdiv_eq_ediv_of_nonneg hx
abbrev C1 (n k : Int) : Prop := 4 ≤ n ∧ n ≤ 16 ∧ 0 ≤ k ∧ 2 * k + 2 ≤ n
abbrev C2 (air d1 d2 : Int) : Prop := 1 ≤ air ∧ air ≤ 1048576 ∧ 0 ≤ d1 ∧ d1 ≤ d2 ∧ d2 ≤ 1048576
abbrev C3 (s r : Int) : Prop := 1 ≤ s ∧ s ≤ 1048576 ∧ 4 ≤ r ∧ r ≤ 1048576
/-- A number from one to another, at most the longest slot. -/
abbrev UP (least x : Int) : Prop := least ≤ x ∧ x ≤ 1048576
abbrev C9 (q b p : Int) : Prop := 1 ≤ q ∧ q ≤ 64 ∧ 1 ≤ b ∧ b ≤ 8 ∧ 1 ≤ p ∧ p ≤ 32
abbrev KN (n k s air d1 d2 r : Int) : Prop := C1 n k ∧ C2 air d1 d2 ∧ C3 s r
def G (n s r : Int) : Int := 2 * (2 * (n * s) / r + 4)
abbrev E (d1 d2 : Int) : Int := d2 - d1 + 6
abbrev A (n s r d1 d2 : Int) : Int := 2 * (E d1 d2 + G n s r)
theorem rb {n s : Int} (h : 4 ≤ n ∧ n ≤ 16) (h2 : 1 ≤ s ∧ s ≤ 1048576) : 4 ≤ n * s ∧ n * s ≤ 16777216 := by
  have a := Int.mul_le_mul h.1 h2.1 (by omega) (by omega)
  have b := Int.mul_le_mul h.2 h2.2 (by omega) (by omega)
  omega
theorem gb {n s r : Int} (h : 4 ≤ n ∧ n ≤ 16) (h2 : 1 ≤ s ∧ s ≤ 1048576) (h3 : 4 ≤ r) : 0 ≤ 2 * (n * s) / r ∧ 2 * (n * s) / r ≤ 33554432 ∧ 8 ≤ G n s r ∧ G n s r ≤ 67108872 := by
  have a := rb h h2
  have b : 0 ≤ 2 * (n * s) / r := Int.ediv_nonneg (by omega) (by omega)
  have c : 2 * (n * s) / r ≤ 2 * (n * s) := Int.ediv_le_self _ (by omega)
  unfold G
  omega
theorem in_eq (a b c : Int) : plan_in.f a b c = some (decide (b ≤ a ∧ a ≤ c)) := by
  unfold plan_in.f
  by_cases h : a ≥ b
  · rw [if_pos h]; congr 1; rw [decide_eq_decide]; omega
  · rw [if_neg h]; congr 1; symm; exact decide_eq_false (by omega)
section
variable (a0 a1 a2 a3 a4 a5 a6 a7 a8 a9 a10 a11 a12 a13 a14 a15 : Int)
theorem nodes_eq : plan_look_nodes.f a0 a1 a2 a3 a4 a5 a6 a7 a8 a9 a10 a11 a12 a13 a14 a15 = some (decide (C1 a0 a1)) := by
  unfold plan_look_nodes.f
  rw [in_eq, Option.bind_some]
  by_cases h : 4 ≤ a0 ∧ a0 ≤ 16
  · rw [decide_eq_true h, if_pos rfl, in_eq, Option.bind_some, wr (a0 - 2) (by omega), tdiv_eq (by omega), wr ((a0 - 2) / 2) (by omega)]
    congr 1; rw [decide_eq_decide]; omega
  · rw [decide_eq_false h, if_neg (by decide)]; congr 1; symm; exact decide_eq_false (by omega)
theorem air_eq : plan_look_air.f a0 a1 a2 a3 a4 a5 a6 a7 a8 a9 a10 a11 a12 a13 a14 a15 = some (decide (C2 a5 a6 a7)) := by
  unfold plan_look_air.f
  rw [in_eq, Option.bind_some]
  by_cases h : 1 ≤ a5 ∧ a5 ≤ 1048576
  · rw [decide_eq_true h, if_pos rfl, in_eq, Option.bind_some]
    by_cases h2 : a6 ≥ 0
    · rw [if_pos h2]; congr 1; rw [decide_eq_decide]; omega
    · rw [if_neg h2]; congr 1; symm; exact decide_eq_false (by omega)
  · rw [decide_eq_false h, if_neg (by decide)]; congr 1; symm; exact decide_eq_false (by omega)
theorem slot_eq : plan_look_slot.f a0 a1 a2 a3 a4 a5 a6 a7 a8 a9 a10 a11 a12 a13 a14 a15 = some (decide (C3 a2 a8)) := by
  unfold plan_look_slot.f
  rw [in_eq, Option.bind_some]
  by_cases h : 1 ≤ a2 ∧ a2 ≤ 1048576
  · rw [decide_eq_true h, if_pos rfl, in_eq, Option.bind_some]
    congr 1; rw [decide_eq_decide]; omega
  · rw [decide_eq_false h, if_neg (by decide)]; congr 1; symm; exact decide_eq_false (by omega)
theorem known_eq : plan_look_known.f a0 a1 a2 a3 a4 a5 a6 a7 a8 a9 a10 a11 a12 a13 a14 a15 = some (decide (KN a0 a1 a2 a5 a6 a7 a8)) := by
  unfold plan_look_known.f
  rw [nodes_eq, air_eq, slot_eq]
  simp only [Option.bind_some]
  by_cases h1 : C1 a0 a1
  · by_cases h2 : C2 a5 a6 a7
    · rw [decide_eq_true h1, decide_eq_true h2, if_pos rfl, if_pos rfl]; congr 1; rw [decide_eq_decide]; exact ⟨fun h => ⟨h1, h2, h⟩, fun h => h.2.2⟩
    · rw [decide_eq_true h1, decide_eq_false h2, if_pos rfl, if_neg (by decide)]; congr 1; symm; exact decide_eq_false (fun h => h2 h.2.1)
  · rw [decide_eq_false h1, if_neg (by decide)]; congr 1; symm; exact decide_eq_false (fun h => h1 h.1)
theorem queue_eq : plan_look_queue.f a0 a1 a2 a3 a4 a5 a6 a7 a8 a9 a10 a11 a12 a13 a14 a15 = some (decide (C9 a12 a13 a14)) := by
  unfold plan_look_queue.f
  rw [in_eq, in_eq, in_eq]
  simp only [Option.bind_some]
  by_cases h : 1 ≤ a12 ∧ a12 ≤ 64
  · by_cases h2 : 1 ≤ a13 ∧ a13 ≤ 8
    · rw [decide_eq_true h, decide_eq_true h2, if_pos rfl, if_pos rfl]; congr 1; rw [decide_eq_decide]; omega
    · rw [decide_eq_true h, decide_eq_false h2, if_pos rfl, if_neg (by decide)]; congr 1; symm; exact decide_eq_false (by omega)
  · rw [decide_eq_false h, if_neg (by decide)]; congr 1; symm; exact decide_eq_false (by omega)
variable (H : KN a0 a1 a2 a5 a6 a7 a8)
include H
theorem e_eq : plan_look_e.f a0 a1 a2 a3 a4 a5 a6 a7 a8 a9 a10 a11 a12 a13 a14 a15 = some (E a6 a7) := by
  unfold plan_look_e.f
  rw [wr (a7 - a6) (by omega), wr _ (by omega)]
theorem round_eq : plan_look_round.f a0 a1 a2 a3 a4 a5 a6 a7 a8 a9 a10 a11 a12 a13 a14 a15 = some (a0 * a2) := by
  unfold plan_look_round.f
  have b := rb (n := a0) (s := a2) (by omega) (by omega)
  rw [wr _ (by omega)]
theorem g_eq : plan_look_g.f a0 a1 a2 a3 a4 a5 a6 a7 a8 a9 a10 a11 a12 a13 a14 a15 = some (G a0 a2 a8) := by
  unfold plan_look_g.f
  have b := rb (n := a0) (s := a2) (by omega) (by omega)
  have c := gb (n := a0) (s := a2) (r := a8) (by omega) (by omega) (by omega)
  have e1 : E a6 a7 = a7 - a6 + 6 := rfl
  have e2 : A a0 a2 a8 a6 a7 = 2 * (E a6 a7 + G a0 a2 a8) := rfl
  rw [round_eq (H := H), Option.bind_some, if_neg (by omega), wr (2 * (a0 * a2)) (by omega), tdiv_eq (by omega), wr (2 * (a0 * a2) / a8) (by omega), wr (2 * (a0 * a2) / a8 + 4) (by omega), wr _ (by omega)]
  rfl
theorem a_eq : plan_look_a.f a0 a1 a2 a3 a4 a5 a6 a7 a8 a9 a10 a11 a12 a13 a14 a15 = some (A a0 a2 a8 a6 a7) := by
  unfold plan_look_a.f
  have c := gb (n := a0) (s := a2) (r := a8) (by omega) (by omega) (by omega)
  have e1 : E a6 a7 = a7 - a6 + 6 := rfl
  have e2 : A a0 a2 a8 a6 a7 = 2 * (E a6 a7 + G a0 a2 a8) := rfl
  rw [e_eq (H := H), g_eq (H := H), Option.bind_some, Option.bind_some, wr (E a6 a7 + G a0 a2 a8) (by omega), wr _ (by omega)]
theorem leastPi_eq : plan_look_leastPi.f a0 a1 a2 a3 a4 a5 a6 a7 a8 a9 a10 a11 a12 a13 a14 a15 = some (2 * (A a0 a2 a8 a6 a7 + G a0 a2 a8) + E a6 a7) := by
  unfold plan_look_leastPi.f
  have c := gb (n := a0) (s := a2) (r := a8) (by omega) (by omega) (by omega)
  have e1 : E a6 a7 = a7 - a6 + 6 := rfl
  have e2 : A a0 a2 a8 a6 a7 = 2 * (E a6 a7 + G a0 a2 a8) := rfl
  rw [a_eq (H := H), g_eq (H := H), e_eq (H := H), Option.bind_some, Option.bind_some, Option.bind_some, wr (A a0 a2 a8 a6 a7 + G a0 a2 a8) (by omega), wr (2 * (A a0 a2 a8 a6 a7 + G a0 a2 a8)) (by omega), wr _ (by omega)]
theorem leastCap_eq : plan_look_leastCap.f a0 a1 a2 a3 a4 a5 a6 a7 a8 a9 a10 a11 a12 a13 a14 a15 = some (A a0 a2 a8 a6 a7 + 2 * G a0 a2 a8 + 2 * E a6 a7) := by
  unfold plan_look_leastCap.f
  have c := gb (n := a0) (s := a2) (r := a8) (by omega) (by omega) (by omega)
  have e1 : E a6 a7 = a7 - a6 + 6 := rfl
  have e2 : A a0 a2 a8 a6 a7 = 2 * (E a6 a7 + G a0 a2 a8) := rfl
  rw [a_eq (H := H), g_eq (H := H), e_eq (H := H), Option.bind_some, Option.bind_some, Option.bind_some, wr (2 * G a0 a2 a8) (by omega), wr (2 * E a6 a7) (by omega), wr (A a0 a2 a8 a6 a7 + 2 * G a0 a2 a8) (by omega), wr _ (by omega)]
theorem leastWindow_eq (hp : 0 ≤ a9 ∧ a9 ≤ 8589934592) : plan_look_leastWindow.f a0 a1 a2 a3 a4 a5 a6 a7 a8 a9 a10 a11 a12 a13 a14 a15 = some (a9 + E a6 a7) := by
  unfold plan_look_leastWindow.f
  have e1 : E a6 a7 = a7 - a6 + 6 := rfl
  rw [e_eq (H := H), Option.bind_some, wr _ (by omega)]
omit H in
theorem leastOff_eq (hp : 0 ≤ a9 ∧ a9 ≤ 8589934592) (hw : 0 ≤ a4 ∧ a4 ≤ 8589934592) (hc : 0 ≤ a10 ∧ a10 ≤ 8589934592) : plan_look_leastOff.f a0 a1 a2 a3 a4 a5 a6 a7 a8 a9 a10 a11 a12 a13 a14 a15 = some (a4 + a10 + a9) := by
  unfold plan_look_leastOff.f
  rw [wr (a4 + a10) (by omega), wr _ (by omega)]
theorem leastSlot_eq (hp : 0 ≤ a9 ∧ a9 ≤ 8589934592) (hw : 0 ≤ a4 ∧ a4 ≤ 8589934592) (hc : 0 ≤ a10 ∧ a10 ≤ 8589934592) (hs : 0 ≤ a3 ∧ a3 ≤ 34359738368) : plan_look_leastSlot.f a0 a1 a2 a3 a4 a5 a6 a7 a8 a9 a10 a11 a12 a13 a14 a15 = some (a3 + a4 + 2 * (a7 + a5) + a10 + a9 + 8) := by
  unfold plan_look_leastSlot.f
  rw [wr (a3 + a4) (by omega), wr (a7 + a5) (by omega), wr (2 * (a7 + a5)) (by omega), wr (a3 + a4 + 2 * (a7 + a5)) (by omega), wr (a3 + a4 + 2 * (a7 + a5) + a10) (by omega), wr (a3 + a4 + 2 * (a7 + a5) + a10 + a9) (by omega), wr _ (by omega)]
end
/-- In how many rounds a queue is sent. -/
def Q (q b : Int) : Int := (q + b - 1) / b
theorem qb {q b p : Int} (h : C9 q b p) : 1 ≤ Q q b ∧ Q q b ≤ 64 ∧ (q / b * b < q → q / b + 1 = Q q b) ∧ (¬ q / b * b < q → q / b = Q q b) ∧ 0 ≤ q / b ∧ q / b ≤ 64 ∧ 0 ≤ q / b * b ∧ q / b * b ≤ 64 := by
  unfold Q
  have : b = 1 ∨ b = 2 ∨ b = 3 ∨ b = 4 ∨ b = 5 ∨ b = 6 ∨ b = 7 ∨ b = 8 := by omega
  rcases this with rfl | rfl | rfl | rfl | rfl | rfl | rfl | rfl <;> omega
theorem mb {x r : Int} (hx : 0 ≤ x ∧ x ≤ 67) (hr : 4 ≤ r ∧ r ≤ 16777216) : 0 ≤ x * r ∧ x * r ≤ 1124073472 := by
  have a := Int.mul_nonneg hx.1 (show 0 ≤ r by omega)
  have b := Int.mul_le_mul hx.2 hr.2 (by omega) (by omega)
  omega
theorem leastDelta_eq (a0 a1 a2 a3 a4 a5 a6 a7 a8 a9 a10 a11 a12 a13 a14 a15 : Int) (H : KN a0 a1 a2 a5 a6 a7 a8) (hp : 0 ≤ a9 ∧ a9 ≤ 8589934592) (h9 : C9 a12 a13 a14) : plan_look_leastDelta.f a0 a1 a2 a3 a4 a5 a6 a7 a8 a9 a10 a11 a12 a13 a14 a15 = some ((Q a12 a13 + 3) * (a0 * a2) + 2 * a9) := by
  unfold plan_look_leastDelta.f
  have b := rb (n := a0) (s := a2) (by omega) (by omega)
  have q := qb h9
  have m := mb (x := Q a12 a13 + 3) (r := a0 * a2) (by omega) b
  have z : (a12 + a13 - 1) / a13 = Q a12 a13 := rfl
  rw [if_neg (by omega), round_eq (H := H), Option.bind_some, wr (a12 + a13) (by omega), wr (a12 + a13 - 1) (by omega), tdiv_eq (by omega), z, wr (Q a12 a13) (by omega), wr (Q a12 a13 + 3) (by omega), wr ((Q a12 a13 + 3) * (a0 * a2)) (by omega), wr (2 * a9) (by omega), wr _ (by omega)]
/-- The condition that a plan fails. -/
def FS (a0 a1 a2 a3 a4 a5 a6 a7 a8 a9 a10 a11 a12 a13 a14 a15 : Int) : Int :=
  if ¬ C1 a0 a1 then 1 else if ¬ C2 a5 a6 a7 then 2 else if ¬ C3 a2 a8 then 3
  else if ¬ UP (2 * (A a0 a2 a8 a6 a7 + G a0 a2 a8) + E a6 a7) a9 then 4 else if ¬ UP (a9 + E a6 a7) a4 then 5
  else if ¬ UP (A a0 a2 a8 a6 a7 + 2 * G a0 a2 a8 + 2 * E a6 a7) a10 then 6 else if ¬ UP (a4 + a10 + a9) a3 then 7
  else if ¬ a3 + a4 + 2 * (a7 + a5) + a10 + a9 + 8 ≤ a2 then 8 else if ¬ C9 a12 a13 a14 then 9
  else if ¬ ((Q a12 a13 + 3) * (a0 * a2) + 2 * a9 ≤ a11 ∧ a11 ≤ 64 * (a0 * a2)) then 10
  else if ¬ (40 * (a0 * a2) ≤ a15 ∧ a15 ≤ 2147483648) then 11 else 0
theorem ite_nn {p : Prop} [Decidable p] {x y : Int} (hx : 0 ≤ x) (hy : 0 ≤ y) : 0 ≤ if p then x else y := by split <;> assumption
theorem NN {p : Prop} (h : p) : ¬ ¬ p := fun x => x h
theorem NF : ¬ (false = true) := by decide
theorem fs_nonneg (a0 a1 a2 a3 a4 a5 a6 a7 a8 a9 a10 a11 a12 a13 a14 a15 : Int) : 0 ≤ FS a0 a1 a2 a3 a4 a5 a6 a7 a8 a9 a10 a11 a12 a13 a14 a15 := by
  unfold FS
  exact ite_nn (by decide) (ite_nn (by decide) (ite_nn (by decide) (ite_nn (by decide) (ite_nn (by decide) (ite_nn (by decide) (ite_nn (by decide) (ite_nn (by decide) (ite_nn (by decide) (ite_nn (by decide) (ite_nn (by decide) (by decide)))))))))))
theorem go_neg {α : Type} (x : Option α) (f : Bool → Option α) : ((some false).bind fun t => if (!t) = true then x else f t) = x := rfl
theorem go_pos {α : Type} (x : Option α) (f : Bool → Option α) : ((some true).bind fun t => if (!t) = true then x else f t) = f true := rfl
theorem fails_eq (a0 a1 a2 a3 a4 a5 a6 a7 a8 a9 a10 a11 a12 a13 a14 a15 : Int) : plan_Fails.f a0 a1 a2 a3 a4 a5 a6 a7 a8 a9 a10 a11 a12 a13 a14 a15 = some (FS a0 a1 a2 a3 a4 a5 a6 a7 a8 a9 a10 a11 a12 a13 a14 a15) := by
  unfold plan_Fails.f FS
  rw [nodes_eq]
  by_cases h1 : C1 a0 a1
  · rw [decide_eq_true h1, go_pos, if_neg (fun h => h h1), air_eq]
    by_cases h2 : C2 a5 a6 a7
    · rw [decide_eq_true h2, go_pos, if_neg (fun h => h h2), slot_eq]
      by_cases h3 : C3 a2 a8
      · have H : KN a0 a1 a2 a5 a6 a7 a8 := ⟨h1, h2, h3⟩
        have b := rb (n := a0) (s := a2) (by omega) (by omega)
        have c := gb (n := a0) (s := a2) (r := a8) (by omega) (by omega) (by omega)
        have e1 : E a6 a7 = a7 - a6 + 6 := rfl
        have e2 : A a0 a2 a8 a6 a7 = 2 * (E a6 a7 + G a0 a2 a8) := rfl
        rw [decide_eq_true h3, go_pos, if_neg (fun h => h h3)]
        rw [show plan_look_pi.f a0 a1 a2 a3 a4 a5 a6 a7 a8 a9 a10 a11 a12 a13 a14 a15 = some (decide (UP (2 * (A a0 a2 a8 a6 a7 + G a0 a2 a8) + E a6 a7) a9)) from by unfold plan_look_pi.f; rw [leastPi_eq (H := H), Option.bind_some, in_eq]; rfl]
        by_cases h4 : UP (2 * (A a0 a2 a8 a6 a7 + G a0 a2 a8) + E a6 a7) a9
        · rw [decide_eq_true h4, go_pos, if_neg (fun h => h h4)]
          rw [show plan_look_window.f a0 a1 a2 a3 a4 a5 a6 a7 a8 a9 a10 a11 a12 a13 a14 a15 = some (decide (UP (a9 + E a6 a7) a4)) from by unfold plan_look_window.f; rw [leastWindow_eq (H := H) (hp := by omega), Option.bind_some, in_eq]; rfl]
          by_cases h5 : UP (a9 + E a6 a7) a4
          · rw [decide_eq_true h5, go_pos, if_neg (fun h => h h5)]
            rw [show plan_look_limit.f a0 a1 a2 a3 a4 a5 a6 a7 a8 a9 a10 a11 a12 a13 a14 a15 = some (decide (UP (A a0 a2 a8 a6 a7 + 2 * G a0 a2 a8 + 2 * E a6 a7) a10)) from by unfold plan_look_limit.f; rw [leastCap_eq (H := H), Option.bind_some, in_eq]; rfl]
            by_cases h6 : UP (A a0 a2 a8 a6 a7 + 2 * G a0 a2 a8 + 2 * E a6 a7) a10
            · rw [decide_eq_true h6, go_pos, if_neg (fun h => h h6)]
              rw [show plan_look_sends.f a0 a1 a2 a3 a4 a5 a6 a7 a8 a9 a10 a11 a12 a13 a14 a15 = some (decide (UP (a4 + a10 + a9) a3)) from by unfold plan_look_sends.f; rw [leastOff_eq (hp := by omega) (hw := by omega) (hc := by omega), Option.bind_some, in_eq]; rfl]
              by_cases h7 : UP (a4 + a10 + a9) a3
              · rw [decide_eq_true h7, go_pos, if_neg (fun h => h h7)]
                rw [show plan_look_fits.f a0 a1 a2 a3 a4 a5 a6 a7 a8 a9 a10 a11 a12 a13 a14 a15 = some (decide (a3 + a4 + 2 * (a7 + a5) + a10 + a9 + 8 ≤ a2)) from by unfold plan_look_fits.f; rw [leastSlot_eq (H := H) (hp := by omega) (hw := by omega) (hc := by omega) (hs := by omega), Option.bind_some]]
                by_cases h8 : a3 + a4 + 2 * (a7 + a5) + a10 + a9 + 8 ≤ a2
                · rw [decide_eq_true h8, go_pos, if_neg (fun h => h h8), queue_eq]
                  by_cases h9 : C9 a12 a13 a14
                  · rw [decide_eq_true h9, go_pos, if_neg (fun h => h h9)]
                    rw [show plan_look_delta.f a0 a1 a2 a3 a4 a5 a6 a7 a8 a9 a10 a11 a12 a13 a14 a15 = some (decide ((Q a12 a13 + 3) * (a0 * a2) + 2 * a9 ≤ a11 ∧ a11 ≤ 64 * (a0 * a2))) from by unfold plan_look_delta.f; rw [leastDelta_eq (H := H) (hp := by omega) (h9 := h9), Option.bind_some, round_eq (H := H), Option.bind_some, wr (64 * (a0 * a2)) (by omega), in_eq]; rfl]
                    by_cases h10 : (Q a12 a13 + 3) * (a0 * a2) + 2 * a9 ≤ a11 ∧ a11 ≤ 64 * (a0 * a2)
                    · rw [decide_eq_true h10, go_pos, if_neg (fun h => h h10)]
                      rw [show plan_look_horizon.f a0 a1 a2 a3 a4 a5 a6 a7 a8 a9 a10 a11 a12 a13 a14 a15 = some (decide (40 * (a0 * a2) ≤ a15 ∧ a15 ≤ 2147483648)) from by unfold plan_look_horizon.f; rw [round_eq (H := H), Option.bind_some, wr (40 * (a0 * a2)) (by omega), in_eq]; rfl]
                      by_cases h11 : 40 * (a0 * a2) ≤ a15 ∧ a15 ≤ 2147483648
                      · rw [decide_eq_true h11, go_pos, if_neg (fun h => h h11)]
                      · rw [decide_eq_false h11, go_neg, if_pos h11]
                    · rw [decide_eq_false h10, go_neg, if_pos h10]
                  · rw [decide_eq_false h9, go_neg, if_pos h9]
                · rw [decide_eq_false h8, go_neg, if_pos h8]
              · rw [decide_eq_false h7, go_neg, if_pos h7]
            · rw [decide_eq_false h6, go_neg, if_pos h6]
          · rw [decide_eq_false h5, go_neg, if_pos h5]
        · rw [decide_eq_false h4, go_neg, if_pos h4]
      · rw [decide_eq_false h3, go_neg, if_pos h3]
    · rw [decide_eq_false h2, go_neg, if_pos h2]
  · rw [decide_eq_false h1, go_neg, if_pos h1]
/-- A plan that fails none. -/
theorem fs_zero (a0 a1 a2 a3 a4 a5 a6 a7 a8 a9 a10 a11 a12 a13 a14 a15 : Int) (h : FS a0 a1 a2 a3 a4 a5 a6 a7 a8 a9 a10 a11 a12 a13 a14 a15 = 0) : KN a0 a1 a2 a5 a6 a7 a8 ∧ UP (2 * (A a0 a2 a8 a6 a7 + G a0 a2 a8) + E a6 a7) a9 ∧ UP (a9 + E a6 a7) a4 ∧ UP (A a0 a2 a8 a6 a7 + 2 * G a0 a2 a8 + 2 * E a6 a7) a10 ∧ UP (a4 + a10 + a9) a3
    ∧ a3 + a4 + 2 * (a7 + a5) + a10 + a9 + 8 ≤ a2 ∧ C9 a12 a13 a14 ∧ ((Q a12 a13 + 3) * (a0 * a2) + 2 * a9 ≤ a11 ∧ a11 ≤ 64 * (a0 * a2)) ∧ (40 * (a0 * a2) ≤ a15 ∧ a15 ≤ 2147483648) := by
  unfold FS at h
  by_cases h1 : C1 a0 a1
  · rw [if_neg (fun x => x h1)] at h
    by_cases h2 : C2 a5 a6 a7
    · rw [if_neg (fun x => x h2)] at h
      by_cases h3 : C3 a2 a8
      · rw [if_neg (fun x => x h3)] at h
        by_cases h4 : UP (2 * (A a0 a2 a8 a6 a7 + G a0 a2 a8) + E a6 a7) a9
        · rw [if_neg (fun x => x h4)] at h
          by_cases h5 : UP (a9 + E a6 a7) a4
          · rw [if_neg (fun x => x h5)] at h
            by_cases h6 : UP (A a0 a2 a8 a6 a7 + 2 * G a0 a2 a8 + 2 * E a6 a7) a10
            · rw [if_neg (fun x => x h6)] at h
              by_cases h7 : UP (a4 + a10 + a9) a3
              · rw [if_neg (fun x => x h7)] at h
                by_cases h8 : a3 + a4 + 2 * (a7 + a5) + a10 + a9 + 8 ≤ a2
                · rw [if_neg (fun x => x h8)] at h
                  by_cases h9 : C9 a12 a13 a14
                  · rw [if_neg (fun x => x h9)] at h
                    by_cases h10 : (Q a12 a13 + 3) * (a0 * a2) + 2 * a9 ≤ a11 ∧ a11 ≤ 64 * (a0 * a2)
                    · rw [if_neg (fun x => x h10)] at h
                      by_cases h11 : 40 * (a0 * a2) ≤ a15 ∧ a15 ≤ 2147483648
                      · exact ⟨⟨h1, h2, h3⟩, h4, h5, h6, h7, h8, h9, h10, h11⟩
                      · rw [if_pos h11] at h; exact absurd h (by decide)
                    · rw [if_pos h10] at h; exact absurd h (by decide)
                  · rw [if_pos h9] at h; exact absurd h (by decide)
                · rw [if_pos h8] at h; exact absurd h (by decide)
              · rw [if_pos h7] at h; exact absurd h (by decide)
            · rw [if_pos h6] at h; exact absurd h (by decide)
          · rw [if_pos h5] at h; exact absurd h (by decide)
        · rw [if_pos h4] at h; exact absurd h (by decide)
      · rw [if_pos h3] at h; exact absurd h (by decide)
    · rw [if_pos h2] at h; exact absurd h (by decide)
  · rw [if_pos h1] at h; exact absurd h (by decide)
theorem pround_eq (a0 a1 a2 a3 a4 a5 a6 a7 a8 a9 a10 a11 a12 a13 a14 a15 : Int) : plan_Round.f a0 a1 a2 a3 a4 a5 a6 a7 a8 a9 a10 a11 a12 a13 a14 a15 = some (if KN a0 a1 a2 a5 a6 a7 a8 then a0 * a2 else 0) := by
  unfold plan_Round.f
  rw [known_eq, Option.bind_some]
  by_cases H : KN a0 a1 a2 a5 a6 a7 a8
  · rw [decide_eq_true H, if_pos rfl, if_pos H, round_eq (H := H)]; rfl
  · rw [decide_eq_false H, if_neg (by decide), if_neg H]
theorem check_eq (a0 a1 a2 a3 a4 a5 a6 a7 a8 a9 a10 a11 a12 a13 a14 a15 : Int) : plan_Check.f a0 a1 a2 a3 a4 a5 a6 a7 a8 a9 a10 a11 a12 a13 a14 a15 = some (if FS a0 a1 a2 a3 a4 a5 a6 a7 a8 a9 a10 a11 a12 a13 a14 a15 = 0 then 0 else 70) := by
  unfold plan_Check.f
  rw [fails_eq, Option.bind_some]
  by_cases h : FS a0 a1 a2 a3 a4 a5 a6 a7 a8 a9 a10 a11 a12 a13 a14 a15 = 0
  · rw [if_neg (fun x => x h), if_pos h]
  · rw [if_pos h, if_neg h]
/-- A message: Stamp, Sender, Number, Payload. -/
abbrev Ms : Type := Int × Int × Int × List Int
def dz : Ms := (0, 0, 0, [])
/-- Ahead of another one. -/
def lt (a b : Ms) : Prop := a.1 < b.1 ∨ (a.1 = b.1 ∧ (a.2.1 < b.2.1 ∨ (a.2.1 = b.2.1 ∧ a.2.2.1 < b.2.2.1)))
instance (a b : Ms) : Decidable (lt a b) := by unfold lt; infer_instance
theorem lt_asymm {a b : Ms} (h : lt a b) : ¬ lt b a := by unfold lt at *; omega
theorem lt_irrefl (a : Ms) : ¬ lt a a := by unfold lt; omega
theorem nlt_trans {a b c : Ms} (h : ¬ lt b a) (k : ¬ lt c b) : ¬ lt c a := by unfold lt at *; omega
theorem lt_nlt {a b c : Ms} (h : lt a b) (k : ¬ lt c b) : ¬ lt c a := nlt_trans (lt_asymm h) k
def cmpE (a b : Ms) : Option Int := holdback_Compare.f (a.1, a.2.1, a.2.2.1, a.2.2.2, b.1, b.2.1, b.2.2.1, b.2.2.2)
theorem cmpI (a b : Int) : cmp_Compare_int.f a b = some (if a < b then -1 else if b < a then 1 else 0) := by
  unfold cmp_Compare_int.f
  rw [if_neg (by simp), if_neg (by simp)]
  split
  · rfl
  · split
    · rfl
    · rfl
theorem cmpL (a b : Int) : cmp_Compare_int64.f a b = some (if a < b then -1 else if b < a then 1 else 0) := by
  unfold cmp_Compare_int64.f
  rw [if_neg (by simp), if_neg (by simp)]
  split
  · rfl
  · split
    · rfl
    · rfl
/-- Alike, but for the payload. -/
def sk (a b : Ms) : Prop := a.1 = b.1 ∧ a.2.1 = b.2.1 ∧ a.2.2.1 = b.2.2.1
instance (a b : Ms) : Decidable (sk a b) := by unfold sk; infer_instance
theorem cmpE_eq (a b : Ms) : cmpE a b = some (if lt a b then -1 else if lt b a then 1 else 0) := by
  obtain ⟨a0, a1, a2, a3⟩ := a
  obtain ⟨b0, b1, b2, b3⟩ := b
  unfold cmpE holdback_Compare.f
  simp only [cmpI, cmpL, Option.bind_some, lt]
  have tri : ∀ x y : Int, x < y ∧ ¬ y < x ∧ ¬ x = y ∧ ¬ y = x ∨ ¬ x < y ∧ ¬ y < x ∧ x = y ∨ ¬ x < y ∧ y < x ∧ ¬ x = y ∧ ¬ y = x := fun x y => by omega
  rcases tri a0 b0 with ⟨h1, h2, h3, h4⟩ | ⟨h1, h2, rfl⟩ | ⟨h1, h2, h3, h4⟩
  · simp [h1]
  · rcases tri a1 b1 with ⟨h1, h2, h3, h4⟩ | ⟨h1, h2, rfl⟩ | ⟨h1, h2, h3, h4⟩
    · simp [h1]
    · rcases tri a2 b2 with ⟨h1, h2, h3, h4⟩ | ⟨h1, h2, rfl⟩ | ⟨h1, h2, h3, h4⟩
      · simp [h1]
      · simp
      · simp [h1, h2, h3, h4]
    · simp [h1, h2, h3, h4]
  · simp [h1, h2, h3, h4]
theorem sk_iff (a b : Ms) : sk a b ↔ ¬ lt a b ∧ ¬ lt b a := by
  unfold sk lt
  omega
theorem cmp0 (a b : Ms) : (if lt a b then (-1 : Int) else if lt b a then 1 else 0) = 0 ↔ sk a b := by
  rw [sk_iff]
  by_cases h : lt a b
  · rw [if_pos h]
    exact ⟨fun e => by omega, fun e => absurd h e.1⟩
  · rw [if_neg h]
    by_cases h2 : lt b a
    · rw [if_pos h2]
      exact ⟨fun e => by omega, fun e => absurd h2 e.2⟩
    · rw [if_neg h2]
      exact ⟨fun _ => ⟨h, h2⟩, fun _ => rfl⟩
/-- The i-th. -/
def g (l : List Ms) (i : Nat) : Ms := l.getD i dz
theorem gl_eq {l : List Ms} {i : Nat} (h : i < l.length) : g l i = l[i] := by
  unfold g
  rw [List.getD_eq_getElem?_getD, List.getElem?_eq_getElem h]
  rfl
theorem g_mem {l : List Ms} {i : Nat} (h : i < l.length) : g l i ∈ l := by
  rw [gl_eq h]
  exact List.getElem_mem h
def swap (l : List Ms) (i j : Nat) : List Ms := (l.set i (g l j)).set j (g l i)
theorem swap_len (l : List Ms) (i j : Nat) : (swap l i j).length = l.length := by simp [swap]
theorem g_set (l : List Ms) (i j : Nat) (x : Ms) (h : i < l.length) : g (l.set i x) j = if j = i then x else g l j := by
  unfold g
  rw [List.getD_eq_getElem?_getD, List.getElem?_set, List.getD_eq_getElem?_getD]
  by_cases e : j = i
  · subst e
    rw [if_pos rfl, if_pos h, if_pos rfl]
    rfl
  · rw [if_neg (fun q => e q.symm), if_neg e]
theorem g_swap (l : List Ms) (i j k : Nat) (hi : i < l.length) (hj : j < l.length) : g (swap l i j) k = if k = j then g l i else if k = i then g l j else g l k := by
  unfold swap
  rw [g_set _ _ _ _ (by simpa using hj), g_set _ _ _ _ hi]
theorem set_perm : ∀ (l : List Ms) (i : Nat) (x : Ms) (h : i < l.length), (x :: l).Perm (l[i] :: l.set i x)
  | y :: l, 0, x, h => List.Perm.swap y x l
  | y :: l, i + 1, x, h => by
    have h' : i < l.length := by simpa using h
    have := set_perm l i x h'
    show (x :: y :: l).Perm (l[i] :: y :: l.set i x)
    exact ((List.Perm.swap y x l).trans (this.cons y)).trans (List.Perm.swap _ _ _)
theorem swap_perm (l : List Ms) (i j : Nat) (hi : i < l.length) (hj : j < l.length) : (swap l i j).Perm l := by
  have h1 := set_perm l i (g l j) hi
  have hj' : j < (l.set i (g l j)).length := by simpa using hj
  have h2 := set_perm (l.set i (g l j)) j (g l i) hj'
  have e : (l.set i (g l j))[j] = g l j := by
    rw [List.getElem_set]
    split
    · rfl
    · exact (gl_eq hj).symm
  rw [e, gl_eq hi] at h2
  have h3 := h1.trans h2
  have h4 := (List.Perm.cons_inv h3).symm
  unfold swap
  rw [gl_eq hi]
  exact h4
theorem swap_self (l : List Ms) (i : Nat) (hi : i < l.length) : swap l i i = l := by
  unfold swap
  rw [gl_eq hi]
  simp
/-- Sifted up. -/
def upL : Nat → List Ms → Nat → List Ms
  | 0, l, _ => l
  | f + 1, l, j => if j = 0 then l else if lt (g l j) (g l ((j - 1) / 2)) then upL f (swap l ((j - 1) / 2) j) ((j - 1) / 2) else l
def kid (l : List Ms) (n i : Nat) : Nat := if 2 * i + 2 < n ∧ lt (g l (2 * i + 2)) (g l (2 * i + 1)) then 2 * i + 2 else 2 * i + 1
theorem kid_lt {l : List Ms} {n i : Nat} (h : ¬ 2 * i + 1 ≥ n) : kid l n i < n ∧ (kid l n i - 1) / 2 = i ∧ i < kid l n i ∧ ∀ k, 0 < k → k < n → (k - 1) / 2 = i → ¬ lt (g l k) (g l (kid l n i)) := by
  unfold kid
  split
  · rename_i h
    refine ⟨h.1, by omega, by omega, fun k hk hl he => ?_⟩
    have : k = 2 * i + 1 ∨ k = 2 * i + 2 := by omega
    rcases this with rfl | rfl
    · exact lt_asymm h.2
    · exact lt_irrefl _
  · rename_i h
    refine ⟨by omega, by omega, by omega, fun k hk hl he => ?_⟩
    have : k = 2 * i + 1 ∨ k = 2 * i + 2 := by omega
    rcases this with rfl | rfl
    · exact lt_irrefl _
    · exact fun q => h ⟨hl, q⟩
def downL : Nat → List Ms → Nat → Nat → List Ms
  | 0, l, _, _ => l
  | f + 1, l, n, i => if 2 * i + 1 ≥ n then l else if lt (g l (kid l n i)) (g l i) then downL f (swap l i (kid l n i)) n (kid l n i) else l
theorem upL_perm : ∀ (f : Nat) (l : List Ms) (j : Nat), j < l.length → (upL f l j).Perm l
  | 0, l, j, h => List.Perm.refl l
  | f + 1, l, j, h => by
    unfold upL
    split
    · exact List.Perm.refl l
    · split
      · exact (upL_perm f _ _ (by rw [swap_len]; omega)).trans (swap_perm _ _ _ (by omega) h)
      · exact List.Perm.refl l
theorem downL_perm : ∀ (f : Nat) (l : List Ms) (n i : Nat), n ≤ l.length → i < l.length → (downL f l n i).Perm l
  | 0, l, n, i, h, hi => List.Perm.refl l
  | f + 1, l, n, i, h, hi => by
    unfold downL
    split
    · exact List.Perm.refl l
    · rename_i h0
      split
      · have := (kid_lt (l := l) h0).1
        exact (downL_perm f _ _ _ (by rw [swap_len]; omega) (by rw [swap_len]; omega)).trans (swap_perm _ _ _ hi (by omega))
      · exact List.Perm.refl l
theorem downL_rest : ∀ (f : Nat) (l : List Ms) (n i k : Nat), n ≤ l.length → i < l.length → n ≤ k → i < k → g (downL f l n i) k = g l k
  | 0, l, n, i, k, h, hi, hk, hik => rfl
  | f + 1, l, n, i, k, h, hi, hk, hik => by
    unfold downL
    split
    · rfl
    · rename_i h0
      split
      · have hj := (kid_lt (l := l) h0).1
        rw [downL_rest f _ _ _ k (by rw [swap_len]; omega) (by rw [swap_len]; omega) hk (by omega), g_swap _ _ _ _ hi (by omega), if_neg (by omega), if_neg (by omega)]
      · rfl
/-- A heap, from a place on. -/
def HeapF (l : List Ms) (n m : Nat) : Prop := ∀ k, 0 < k → k < n → m ≤ (k - 1) / 2 → ¬ lt (g l k) (g l ((k - 1) / 2))
abbrev Heap (l : List Ms) : Prop := HeapF l l.length 0
theorem upL_heap : ∀ (f : Nat) (l : List Ms) (j : Nat), j < f → j < l.length → (∀ k, 0 < k → k < l.length → k ≠ j → ¬ lt (g l k) (g l ((k - 1) / 2))) → (∀ k, 0 < k → k < l.length → (k - 1) / 2 = j → 0 < j → ¬ lt (g l k) (g l ((j - 1) / 2))) → Heap (upL f l j)
  | 0, l, j, hf, hj, h1, h2 => by omega
  | f + 1, l, j, hf, hj, h1, h2 => by
    unfold upL
    split
    · rename_i e
      intro k hk hl _
      exact h1 k hk hl (by omega)
    · rename_i e
      split
      · rename_i hlt
        have hp : (j - 1) / 2 < l.length := by omega
        refine upL_heap f _ _ (by omega) (by rw [swap_len]; exact hp) (fun k hk hl hn => ?_) (fun k hk hl he hpos => ?_)
        · rw [swap_len] at hl
          rw [g_swap _ _ _ _ hp hj, g_swap _ _ _ _ hp hj]
          by_cases ek : k = j
          · subst ek
            rw [if_pos rfl, if_neg (by omega), if_pos rfl]
            exact lt_asymm hlt
          · rw [if_neg ek, if_neg (by omega)]
            by_cases e1 : (k - 1) / 2 = j
            · rw [if_pos e1]
              exact h2 k hk hl e1 (by omega)
            · rw [if_neg e1]
              by_cases e2 : (k - 1) / 2 = (j - 1) / 2
              · rw [if_pos e2]
                have := h1 k hk hl ek
                rw [e2] at this
                exact lt_nlt hlt this
              · rw [if_neg e2]
                exact h1 k hk hl ek
        · rw [swap_len] at hl
          rw [g_swap _ _ _ _ hp hj, g_swap _ _ _ _ hp hj, if_neg (show ¬ ((j - 1) / 2 - 1) / 2 = j by omega), if_neg (show ¬ ((j - 1) / 2 - 1) / 2 = (j - 1) / 2 by omega)]
          have ha := h1 ((j - 1) / 2) (by omega) hp (by omega)
          by_cases ek : k = j
          · rw [if_pos ek]
            exact ha
          · rw [if_neg ek, if_neg (by omega)]
            have := h1 k hk hl ek
            rw [he] at this
            exact nlt_trans ha this
      · rename_i hlt
        intro k hk hl _
        by_cases ek : k = j
        · subst ek
          exact hlt
        · exact h1 k hk hl ek
theorem downL_heap : ∀ (f : Nat) (l : List Ms) (n i m : Nat), n ≤ i + f → n ≤ l.length → i < l.length → m ≤ i → (∀ k, 0 < k → k < n → m ≤ (k - 1) / 2 → (k - 1) / 2 ≠ i → ¬ lt (g l k) (g l ((k - 1) / 2))) → (∀ k, 0 < k → k < n → (k - 1) / 2 = i → 0 < i → m ≤ (i - 1) / 2 → ¬ lt (g l k) (g l ((i - 1) / 2))) → HeapF (downL f l n i) n m
  | 0, l, n, i, m, hf, hn, hi, hm, h1, h2 => fun k hk hl hmk => by
    show ¬ lt (g l k) _
    exact h1 k hk hl hmk (by omega)
  | f + 1, l, n, i, m, hf, hn, hi, hm, h1, h2 => by
    unfold downL
    split
    · intro k hk hl hmk
      exact h1 k hk hl hmk (by omega)
    · rename_i hlt
      have hjn := kid_lt (l := l) hlt
      generalize kid l n i = j at hjn ⊢
      obtain ⟨hj1, hj2, hj3, hj4⟩ := hjn
      split
      · rename_i hs
        have hjl : j < l.length := by omega
        refine downL_heap f _ n j m (by omega) (by rw [swap_len]; exact hn) (by rw [swap_len]; exact hjl) (by omega) (fun k hk hl hmk hne => ?_) (fun k hk hl he hpos hmj => ?_)
        · rw [g_swap _ _ _ _ hi hjl, g_swap _ _ _ _ hi hjl, if_neg hne]
          by_cases ek : k = j
          · subst ek
            rw [if_pos rfl, if_pos hj2]
            exact lt_asymm hs
          · rw [if_neg ek]
            by_cases e1 : k = i
            · subst e1
              rw [if_pos rfl, if_neg (by omega)]
              exact h2 j (by omega) hj1 hj2 hk hmk
            · rw [if_neg e1]
              by_cases e2 : (k - 1) / 2 = i
              · rw [if_pos e2]
                exact hj4 k hk hl e2
              · rw [if_neg e2]
                exact h1 k hk hl hmk e2
        · rw [g_swap _ _ _ _ hi hjl, g_swap _ _ _ _ hi hjl, if_neg (by omega), if_neg (by omega), hj2, if_neg (by omega), if_pos rfl]
          have := h1 k hk hl (by omega) (by omega)
          rw [he] at this
          exact this
      · rename_i hs
        intro k hk hl hmk
        by_cases e : (k - 1) / 2 = i
        · rw [e]
          exact nlt_trans hs (hj4 k hk hl e)
        · exact h1 k hk hl hmk e
/-- The first one is none that another is ahead of. -/
theorem heap_min {l : List Ms} {n : Nat} (h : HeapF l n 0) : ∀ k, k < n → ¬ lt (g l k) (g l 0) := by
  intro k
  induction k using Nat.strongRecOn with
  | ind k ih =>
    intro hk
    by_cases e : k = 0
    · subst e
      exact lt_irrefl _
    · exact nlt_trans (ih ((k - 1) / 2) (by omega) (by omega)) (h k (by omega) hk (Nat.zero_le _))
theorem heap_first {l : List Ms} (h : Heap l) : ∀ e ∈ l, ¬ lt e (g l 0) := by
  intro e he
  obtain ⟨k, hk, rfl⟩ := List.mem_iff_getElem.1 he
  rw [← gl_eq hk]
  exact heap_min h k hk
/-- Put. -/
def putL (l : List Ms) (x : Ms) : List Ms := upL (l.length + 1) (l ++ [x]) l.length
theorem putL_perm (l : List Ms) (x : Ms) : (putL l x).Perm (x :: l) := (upL_perm _ _ _ (by simp)).trans (List.perm_append_singleton ..)
theorem putL_len (l : List Ms) (x : Ms) : (putL l x).length = l.length + 1 := by rw [(putL_perm l x).length_eq]; rfl
theorem g_app {l : List Ms} {x : Ms} {k : Nat} (h : k < l.length) : g (l ++ [x]) k = g l k := by
  unfold g
  rw [List.getD_eq_getElem?_getD, List.getD_eq_getElem?_getD, List.getElem?_append_left h]
theorem putL_heap {l : List Ms} (h : Heap l) (x : Ms) : Heap (putL l x) := by
  refine upL_heap _ _ _ (by omega) (by simp) (fun k hk hl hn => ?_) (fun k hk hl he hpos => ?_)
  · simp at hl
    rw [g_app (by omega), g_app (by omega)]
    exact h k hk (by omega) (Nat.zero_le _)
  · simp at hl
    omega
/-- Taken. -/
def takeL (l : List Ms) : List Ms := (downL l.length (swap l 0 (l.length - 1)) (l.length - 1) 0).take (l.length - 1)
theorem take_last {l : List Ms} {n : Nat} (h : l.length = n + 1) : l.Perm (g l n :: l.take n) := by
  have : l = l.take n ++ [g l n] := by
    rw [gl_eq (by omega)]
    conv => lhs; rw [← List.take_append_drop n l]
    congr 1
    rw [List.drop_eq_getElem_cons (by omega), List.drop_of_length_le (by omega)]
  conv => lhs; rw [this]
  exact List.perm_append_singleton ..
theorem g_take {l : List Ms} {n k : Nat} (h : k < n) (hl : n ≤ l.length) : g (l.take n) k = g l k := by
  unfold g
  rw [List.getD_eq_getElem?_getD, List.getD_eq_getElem?_getD, List.getElem?_take_of_lt h]
theorem takeL_perm {l : List Ms} (h : 0 < l.length) : l.Perm (g l 0 :: takeL l) := by
  have h1 : (downL l.length (swap l 0 (l.length - 1)) (l.length - 1) 0).Perm l :=
    (downL_perm _ _ _ _ (by rw [swap_len]; omega) (by rw [swap_len]; omega)).trans (swap_perm _ _ _ h (by omega))
  have h2 := take_last (l := downL l.length (swap l 0 (l.length - 1)) (l.length - 1) 0) (n := l.length - 1) (by rw [h1.length_eq]; omega)
  have e : g (downL l.length (swap l 0 (l.length - 1)) (l.length - 1) 0) (l.length - 1) = g l 0 := by
    by_cases e0 : l.length = 1
    · rw [e0]
      show g (downL 1 (swap l 0 0) 0 0) 0 = g l 0
      unfold downL
      rw [if_pos (by omega), swap_self _ _ h]
    · rw [downL_rest _ _ _ _ _ (by rw [swap_len]; omega) (by rw [swap_len]; omega) (Nat.le_refl _) (by omega), g_swap _ _ _ _ h (by omega), if_pos rfl]
  rw [e] at h2
  exact h1.symm.trans h2
theorem takeL_len {l : List Ms} (h : 0 < l.length) : (takeL l).length = l.length - 1 := by
  have := (takeL_perm h).length_eq
  simp at this
  omega
theorem takeL_heap {l : List Ms} (h : Heap l) (hl : 0 < l.length) : Heap (takeL l) := by
  have h1 : HeapF (downL l.length (swap l 0 (l.length - 1)) (l.length - 1) 0) (l.length - 1) 0 := by
    refine downL_heap _ _ _ _ _ (by omega) (by rw [swap_len]; omega) (by rw [swap_len]; omega) (Nat.le_refl _) (fun k hk hkl _ hne => ?_) (fun k hk hkl he hpos => by omega)
    rw [g_swap _ _ _ _ hl (by omega), g_swap _ _ _ _ hl (by omega), if_neg (by omega), if_neg (by omega), if_neg (by omega), if_neg (by omega)]
    exact h k hk (by omega) (Nat.zero_le _)
  intro k hk hkl _
  rw [takeL_len hl] at hkl
  have hlen : l.length - 1 ≤ (downL l.length (swap l 0 (l.length - 1)) (l.length - 1) 0).length := by
    rw [(downL_perm _ _ _ _ (by rw [swap_len]; omega) (by rw [swap_len]; omega)).length_eq, swap_len]
    omega
  unfold takeL
  rw [g_take hkl hlen, g_take (by omega) hlen]
  exact h1 k hk hkl (Nat.zero_le _)
theorem up_def (j : Int) (a0 a1 a2 a3 a4 a5 a6 a7 a8 a9 a10 a11 a12 a13 a14 a15 : Int) (l : List Ms) : container_heap_up.step0 (j, a0, a1, a2, a3, a4, a5, a6, a7, a8, a9, a10, a11, a12, a13, a14, a15, l) =
    (if wrap64 ((wrap64 (j - 1)).tdiv 2) = j then some (Sum.inr (Sum.inl (j, a0, a1, a2, a3, a4, a5, a6, a7, a8, a9, a10, a11, a12, a13, a14, a15, l))) else if 0 ≤ j ∧ j < Int.ofNat l.length then (if 0 ≤ wrap64 ((wrap64 (j - 1)).tdiv 2) ∧ wrap64 ((wrap64 (j - 1)).tdiv 2) < Int.ofNat l.length then
      ((cmpE (g l j.toNat) (g l (wrap64 ((wrap64 (j - 1)).tdiv 2)).toNat)).bind fun t0 => if (!decide (t0 < 0)) = true then some (Sum.inr (Sum.inl (j, a0, a1, a2, a3, a4, a5, a6, a7, a8, a9, a10, a11, a12, a13, a14, a15, l))) else if 0 ≤ j ∧ j < Int.ofNat l.length then (if 0 ≤ wrap64 ((wrap64 (j - 1)).tdiv 2) ∧ wrap64 ((wrap64 (j - 1)).tdiv 2) < Int.ofNat l.length then
        (if 0 ≤ wrap64 ((wrap64 (j - 1)).tdiv 2) ∧ wrap64 ((wrap64 (j - 1)).tdiv 2) < Int.ofNat l.length then (if 0 ≤ j ∧ j < Int.ofNat l.length then some (Sum.inl (wrap64 ((wrap64 (j - 1)).tdiv 2), a0, a1, a2, a3, a4, a5, a6, a7, a8, a9, a10, a11, a12, a13, a14, a15, swap l (wrap64 ((wrap64 (j - 1)).tdiv 2)).toNat j.toNat)) else none) else none) else none) else none) else none) else none) := rfl
theorem up_step (j : Nat) (a0 a1 a2 a3 a4 a5 a6 a7 a8 a9 a10 a11 a12 a13 a14 a15 : Int) (l : List Ms) (hj : j < l.length) (hl : l.length ≤ 1000000) : container_heap_up.step0 ((j : Int), a0, a1, a2, a3, a4, a5, a6, a7, a8, a9, a10, a11, a12, a13, a14, a15, l) =
    if j = 0 then some (.inr (.inl ((j : Int), a0, a1, a2, a3, a4, a5, a6, a7, a8, a9, a10, a11, a12, a13, a14, a15, l))) else if lt (g l j) (g l ((j - 1) / 2)) then some (.inl ((((j - 1) / 2 : Nat) : Int), a0, a1, a2, a3, a4, a5, a6, a7, a8, a9, a10, a11, a12, a13, a14, a15, swap l ((j - 1) / 2) j)) else some (.inr (.inl ((j : Int), a0, a1, a2, a3, a4, a5, a6, a7, a8, a9, a10, a11, a12, a13, a14, a15, l))) := by
  rw [up_def]
  by_cases h0 : j = 0
  · subst h0
    rw [if_pos (by rw [show ((0 : Nat) : Int) - 1 = -1 from rfl, wr (-1) (by omega), show (-1 : Int).tdiv 2 = 0 from rfl, wr 0 (by omega)]; rfl), if_pos rfl]
  · have e : wrap64 ((wrap64 ((j : Int) - 1)).tdiv 2) = (((j - 1) / 2 : Nat) : Int) := by
      rw [wr ((j : Int) - 1) (by omega), Int.tdiv_eq_ediv_of_nonneg (by omega), wr _ (by omega)]
      omega
    have i1 : 0 ≤ (j : Int) ∧ (j : Int) < Int.ofNat l.length := ⟨by omega, by show (j : Int) < (l.length : Int); omega⟩
    have i2 : 0 ≤ (((j - 1) / 2 : Nat) : Int) ∧ (((j - 1) / 2 : Nat) : Int) < Int.ofNat l.length := ⟨by omega, by show _ < (l.length : Int); omega⟩
    rw [e, if_neg (by omega), if_neg h0, if_pos i1, if_pos i2, Int.toNat_natCast, Int.toNat_natCast, cmpE_eq, Option.bind_some]
    by_cases hlt : lt (g l j) (g l ((j - 1) / 2))
    · rw [if_pos hlt, if_neg (by decide), if_pos i1, if_pos i2, if_pos i2, if_pos i1, if_pos hlt]
    · rw [if_neg hlt, if_neg hlt, if_pos (by split <;> decide)]
theorem up_loop : ∀ (f j : Nat) (a0 a1 a2 a3 a4 a5 a6 a7 a8 a9 a10 a11 a12 a13 a14 a15 : Int) (l : List Ms), j < f → j < l.length → l.length ≤ 1000000 → ∃ j' : Int, rounds container_heap_up.step0 ((j : Int), a0, a1, a2, a3, a4, a5, a6, a7, a8, a9, a10, a11, a12, a13, a14, a15, l) = some (.inl (j', a0, a1, a2, a3, a4, a5, a6, a7, a8, a9, a10, a11, a12, a13, a14, a15, upL f l j))
  | 0, j, a0, a1, a2, a3, a4, a5, a6, a7, a8, a9, a10, a11, a12, a13, a14, a15, l, hf, hj, hl => by omega
  | f + 1, j, a0, a1, a2, a3, a4, a5, a6, a7, a8, a9, a10, a11, a12, a13, a14, a15, l, hf, hj, hl => by
    have st := up_step j a0 a1 a2 a3 a4 a5 a6 a7 a8 a9 a10 a11 a12 a13 a14 a15 l hj hl
    by_cases h0 : j = 0
    · rw [if_pos h0] at st
      exact ⟨_, by rw [rounds_end st]; unfold upL; rw [if_pos h0]⟩
    · rw [if_neg h0] at st
      by_cases hlt : lt (g l j) (g l ((j - 1) / 2))
      · rw [if_pos hlt] at st
        obtain ⟨j', h⟩ := up_loop f ((j - 1) / 2) a0 a1 a2 a3 a4 a5 a6 a7 a8 a9 a10 a11 a12 a13 a14 a15 (swap l ((j - 1) / 2) j) (by omega) (by rw [swap_len]; omega) (by rw [swap_len]; exact hl)
        exact ⟨j', by rw [rounds_next st, h]; conv => rhs; unfold upL; rw [if_neg h0, if_pos hlt]⟩
      · rw [if_neg hlt] at st
        exact ⟨_, by rw [rounds_end st]; unfold upL; rw [if_neg h0, if_neg hlt]⟩
def J1 (i : Int) : Int := wrap64 (wrap64 (2 * i) + 1)
def J2 (i : Int) : Int := wrap64 (wrap64 (wrap64 (2 * i) + 1) + 1)
def dnRest (i0 n i : Int) (a0 a1 a2 a3 a4 a5 a6 a7 a8 a9 a10 a11 a12 a13 a14 a15 : Int) (l : List Ms) (j : Int) : Option (container_heap_down.X0 ⊕ (container_heap_down.X0 ⊕ container_heap_down.Y0)) :=
  if 0 ≤ j ∧ j < Int.ofNat l.length then (if 0 ≤ i ∧ i < Int.ofNat l.length then ((cmpE (g l j.toNat) (g l i.toNat)).bind fun t1 => if (!decide (t1 < 0)) = true then some (Sum.inr (Sum.inl (i0, n, i, a0, a1, a2, a3, a4, a5, a6, a7, a8, a9, a10, a11, a12, a13, a14, a15, l))) else
    if 0 ≤ j ∧ j < Int.ofNat l.length then (if 0 ≤ i ∧ i < Int.ofNat l.length then (if 0 ≤ i ∧ i < Int.ofNat l.length then (if 0 ≤ j ∧ j < Int.ofNat l.length then some (Sum.inl (i0, n, j, a0, a1, a2, a3, a4, a5, a6, a7, a8, a9, a10, a11, a12, a13, a14, a15, swap l i.toNat j.toNat)) else none) else none) else none) else none) else none) else none
theorem down_def (i0 n i : Int) (a0 a1 a2 a3 a4 a5 a6 a7 a8 a9 a10 a11 a12 a13 a14 a15 : Int) (l : List Ms) : container_heap_down.step0 (i0, n, i, a0, a1, a2, a3, a4, a5, a6, a7, a8, a9, a10, a11, a12, a13, a14, a15, l) =
    (if J1 i ≥ n then some (Sum.inr (Sum.inl (i0, n, i, a0, a1, a2, a3, a4, a5, a6, a7, a8, a9, a10, a11, a12, a13, a14, a15, l))) else if J1 i < 0 then some (Sum.inr (Sum.inl (i0, n, i, a0, a1, a2, a3, a4, a5, a6, a7, a8, a9, a10, a11, a12, a13, a14, a15, l))) else
     if J2 i < n then (if 0 ≤ J2 i ∧ J2 i < Int.ofNat l.length then (if 0 ≤ J1 i ∧ J1 i < Int.ofNat l.length then ((cmpE (g l (J2 i).toNat) (g l (J1 i).toNat)).bind fun t0 => if t0 < 0 then dnRest i0 n i a0 a1 a2 a3 a4 a5 a6 a7 a8 a9 a10 a11 a12 a13 a14 a15 l (J2 i) else dnRest i0 n i a0 a1 a2 a3 a4 a5 a6 a7 a8 a9 a10 a11 a12 a13 a14 a15 l (J1 i)) else none) else none) else dnRest i0 n i a0 a1 a2 a3 a4 a5 a6 a7 a8 a9 a10 a11 a12 a13 a14 a15 l (J1 i)) := rfl
theorem dn_rest (i0 n : Int) (a0 a1 a2 a3 a4 a5 a6 a7 a8 a9 a10 a11 a12 a13 a14 a15 : Int) (l : List Ms) (i j : Nat) (hi : i < l.length) (hj : j < l.length) : dnRest i0 n (i : Int) a0 a1 a2 a3 a4 a5 a6 a7 a8 a9 a10 a11 a12 a13 a14 a15 l (j : Int) = if lt (g l j) (g l i) then some (Sum.inl (i0, n, (j : Int), a0, a1, a2, a3, a4, a5, a6, a7, a8, a9, a10, a11, a12, a13, a14, a15, swap l i j)) else some (Sum.inr (Sum.inl (i0, n, (i : Int), a0, a1, a2, a3, a4, a5, a6, a7, a8, a9, a10, a11, a12, a13, a14, a15, l))) := by
  have i1 : 0 ≤ (i : Int) ∧ (i : Int) < Int.ofNat l.length := ⟨by omega, by show (i : Int) < (l.length : Int); omega⟩
  have i2 : 0 ≤ (j : Int) ∧ (j : Int) < Int.ofNat l.length := ⟨by omega, by show (j : Int) < (l.length : Int); omega⟩
  unfold dnRest
  rw [if_pos i2, if_pos i1, Int.toNat_natCast, Int.toNat_natCast, cmpE_eq, Option.bind_some]
  by_cases hlt : lt (g l j) (g l i)
  · rw [if_pos hlt, if_neg (by decide), if_pos i2, if_pos i1, if_pos i1, if_pos i2, if_pos hlt]
  · rw [if_neg hlt, if_neg hlt, if_pos (by split <;> decide)]
theorem down_step (i0 : Int) (a0 a1 a2 a3 a4 a5 a6 a7 a8 a9 a10 a11 a12 a13 a14 a15 : Int) (n i : Nat) (l : List Ms) (hn : n ≤ l.length) (hi : i < l.length) (hl : l.length ≤ 1000000) : container_heap_down.step0 (i0, (n : Int), (i : Int), a0, a1, a2, a3, a4, a5, a6, a7, a8, a9, a10, a11, a12, a13, a14, a15, l) =
    if 2 * i + 1 ≥ n then some (.inr (.inl (i0, (n : Int), (i : Int), a0, a1, a2, a3, a4, a5, a6, a7, a8, a9, a10, a11, a12, a13, a14, a15, l))) else if lt (g l (kid l n i)) (g l i) then some (.inl (i0, (n : Int), ((kid l n i : Nat) : Int), a0, a1, a2, a3, a4, a5, a6, a7, a8, a9, a10, a11, a12, a13, a14, a15, swap l i (kid l n i))) else some (.inr (.inl (i0, (n : Int), (i : Int), a0, a1, a2, a3, a4, a5, a6, a7, a8, a9, a10, a11, a12, a13, a14, a15, l))) := by
  rw [down_def]
  have e1 : J1 (i : Int) = ((2 * i + 1 : Nat) : Int) := by
    unfold J1
    rw [wr (2 * (i : Int)) (by omega), wr _ (by omega)]
    omega
  have e2 : J2 (i : Int) = ((2 * i + 2 : Nat) : Int) := by
    unfold J2
    rw [wr (2 * (i : Int)) (by omega), wr (2 * (i : Int) + 1) (by omega), wr _ (by omega)]
    omega
  rw [e1, e2]
  by_cases h : 2 * i + 1 ≥ n
  · rw [if_pos (by omega), if_pos h]
  · rw [if_neg (by omega), if_neg h, if_neg (by omega)]
    by_cases h2 : 2 * i + 2 < n
    · rw [if_pos (by omega), if_pos ⟨by omega, by show _ < (l.length : Int); omega⟩, if_pos ⟨by omega, by show _ < (l.length : Int); omega⟩, Int.toNat_natCast, Int.toNat_natCast, cmpE_eq, Option.bind_some]
      by_cases hlt : lt (g l (2 * i + 2)) (g l (2 * i + 1))
      · have ek : kid l n i = 2 * i + 2 := if_pos ⟨h2, hlt⟩
        rw [if_pos hlt, if_pos (by decide), dn_rest _ _ _ _ _ _ _ _ _ _ _ _ _ _ _ _ _ _ _ _ _ hi (by omega), ek]
      · have ek : kid l n i = 2 * i + 1 := if_neg fun q => hlt q.2
        rw [if_neg hlt, if_neg (by split <;> decide), dn_rest _ _ _ _ _ _ _ _ _ _ _ _ _ _ _ _ _ _ _ _ _ hi (by omega), ek]
    · have ek : kid l n i = 2 * i + 1 := if_neg fun q => h2 q.1
      rw [if_neg (by omega), dn_rest _ _ _ _ _ _ _ _ _ _ _ _ _ _ _ _ _ _ _ _ _ hi (by omega), ek]
theorem down_loop : ∀ (f : Nat) (i0 : Int) (a0 a1 a2 a3 a4 a5 a6 a7 a8 a9 a10 a11 a12 a13 a14 a15 : Int) (n i : Nat) (l : List Ms), n ≤ i + f → n ≤ l.length → i < l.length → l.length ≤ 1000000 → 0 < f → ∃ i' : Int, rounds container_heap_down.step0 (i0, (n : Int), (i : Int), a0, a1, a2, a3, a4, a5, a6, a7, a8, a9, a10, a11, a12, a13, a14, a15, l) = some (.inl (i0, (n : Int), i', a0, a1, a2, a3, a4, a5, a6, a7, a8, a9, a10, a11, a12, a13, a14, a15, downL f l n i))
  | 0, i0, a0, a1, a2, a3, a4, a5, a6, a7, a8, a9, a10, a11, a12, a13, a14, a15, n, i, l, hf, hn, hi, hl, hp => by omega
  | f + 1, i0, a0, a1, a2, a3, a4, a5, a6, a7, a8, a9, a10, a11, a12, a13, a14, a15, n, i, l, hf, hn, hi, hl, hp => by
    have st := down_step i0 a0 a1 a2 a3 a4 a5 a6 a7 a8 a9 a10 a11 a12 a13 a14 a15 n i l hn hi hl
    by_cases h : 2 * i + 1 ≥ n
    · rw [if_pos h] at st
      exact ⟨_, by rw [rounds_end st]; unfold downL; rw [if_pos h]⟩
    · rw [if_neg h] at st
      by_cases hlt : lt (g l (kid l n i)) (g l i)
      · rw [if_pos hlt] at st
        have hk := kid_lt (l := l) h
        obtain ⟨i', e⟩ := down_loop f i0 a0 a1 a2 a3 a4 a5 a6 a7 a8 a9 a10 a11 a12 a13 a14 a15 n (kid l n i) (swap l i (kid l n i)) (by omega) (by rw [swap_len]; exact hn) (by rw [swap_len]; omega) (by rw [swap_len]; exact hl) (by omega)
        exact ⟨i', by rw [rounds_next st, e]; conv => rhs; unfold downL; rw [if_neg h, if_pos hlt]⟩
      · rw [if_neg hlt] at st
        exact ⟨_, by rw [rounds_end st]; unfold downL; rw [if_neg h, if_neg hlt]⟩
theorem down_eq (i0 : Int) (a0 a1 a2 a3 a4 a5 a6 a7 a8 a9 a10 a11 a12 a13 a14 a15 : Int) (n i f : Nat) (l : List Ms) (hi0 : i0 = (i : Int)) (hf : n ≤ i + f) (hn : n ≤ l.length) (hi : i < l.length) (hl : l.length ≤ 1000000) (hp : 0 < f) : ∃ b, container_heap_down.f (i0, (n : Int), a0, a1, a2, a3, a4, a5, a6, a7, a8, a9, a10, a11, a12, a13, a14, a15, l) = some (b, a0, a1, a2, a3, a4, a5, a6, a7, a8, a9, a10, a11, a12, a13, a14, a15, downL f l n i) := by
  subst hi0
  unfold container_heap_down.f
  dsimp only
  obtain ⟨i', e⟩ := down_loop f (i : Int) a0 a1 a2 a3 a4 a5 a6 a7 a8 a9 a10 a11 a12 a13 a14 a15 n i l hf hn hi hl hp
  rw [guardEq_self, e]
  exact ⟨_, rfl⟩
/-- Is there a message of the same stamp, sender and number? -/
def has (m : Ms) (l : List Ms) : Prop := ∃ e ∈ l, sk e m
instance (m : Ms) (l : List Ms) : Decidable (has m l) := by unfold has; infer_instance
theorem has_g {m : Ms} {l : List Ms} : has m l ↔ ∃ j, j < l.length ∧ sk (g l j) m := by
  constructor
  · rintro ⟨e, he, h⟩
    obtain ⟨j, hj, rfl⟩ := List.mem_iff_getElem.1 he
    exact ⟨j, hj, by rw [gl_eq hj]; exact h⟩
  · rintro ⟨j, hj, h⟩
    exact ⟨_, g_mem hj, h⟩
theorem has_step (i : Nat) (m : Ms) (l : List Ms) (hl : l.length ≤ 1000000) : slices_IndexFunc_api_Message_api_Message.step0 ((i : Int), (l.length : Int), m.1, m.2.1, m.2.2.1, m.2.2.2, l) =
    if i < l.length then (if sk (g l i) m then some (.inr (.inr ((i : Int), m.1, m.2.1, m.2.2.1, m.2.2.2, l))) else some (.inl (((i + 1 : Nat) : Int), (l.length : Int), m.1, m.2.1, m.2.2.1, m.2.2.2, l))) else some (.inr (.inl ((i : Int), (l.length : Int), m.1, m.2.1, m.2.2.1, m.2.2.2, l))) := by
  have d : slices_IndexFunc_api_Message_api_Message.step0 ((i : Int), (l.length : Int), m.1, m.2.1, m.2.2.1, m.2.2.2, l) =
    (if (i : Int) < (l.length : Int) then (if 0 ≤ (i : Int) ∧ (i : Int) < Int.ofNat l.length then ((cmpE (g l (i : Int).toNat) m).bind fun t0 => if t0 = 0 then some (.inr (.inr ((i : Int), m.1, m.2.1, m.2.2.1, m.2.2.2, l))) else some (.inl (wrap64 ((i : Int) + 1), (l.length : Int), m.1, m.2.1, m.2.2.1, m.2.2.2, l))) else none) else some (.inr (.inl ((i : Int), (l.length : Int), m.1, m.2.1, m.2.2.1, m.2.2.2, l)))) := rfl
  rw [d]
  by_cases h : i < l.length
  · rw [if_pos (by omega), if_pos ⟨by omega, by show (i : Int) < (l.length : Int); omega⟩, cmpE_eq, Option.bind_some, Int.toNat_natCast, if_pos h]
    by_cases hs : sk (g l i) m
    · rw [if_pos ((cmp0 _ _).2 hs), if_pos hs]
    · rw [if_neg (fun e => hs ((cmp0 _ _).1 e)), if_neg hs, wr _ (by omega)]
      rfl
  · rw [if_neg (by omega), if_neg h]
theorem has_loop : ∀ (k i : Nat) (m : Ms) (l : List Ms), i + k = l.length → l.length ≤ 1000000 →
    ((∃ j, i ≤ j ∧ j < l.length ∧ sk (g l j) m) ∧ ∃ y : Int, 0 ≤ y ∧ rounds slices_IndexFunc_api_Message_api_Message.step0 ((i : Int), (l.length : Int), m.1, m.2.1, m.2.2.1, m.2.2.2, l) = some (.inr (y, m.1, m.2.1, m.2.2.1, m.2.2.2, l))) ∨
    ((¬ ∃ j, i ≤ j ∧ j < l.length ∧ sk (g l j) m) ∧ ∃ i' : Int, rounds slices_IndexFunc_api_Message_api_Message.step0 ((i : Int), (l.length : Int), m.1, m.2.1, m.2.2.1, m.2.2.2, l) = some (.inl (i', (l.length : Int), m.1, m.2.1, m.2.2.1, m.2.2.2, l)))
  | 0, i, m, l, hk, hl => by
    have st := has_step i m l hl
    rw [if_neg (by omega)] at st
    exact .inr ⟨fun ⟨j, h1, h2, _⟩ => by omega, _, rounds_end st⟩
  | k + 1, i, m, l, hk, hl => by
    have st := has_step i m l hl
    rw [if_pos (by omega)] at st
    by_cases hs : sk (g l i) m
    · rw [if_pos hs] at st
      exact .inl ⟨⟨i, Nat.le_refl _, by omega, hs⟩, _, by omega, rounds_end st⟩
    · rw [if_neg hs] at st
      rcases has_loop k (i + 1) m l (by omega) hl with ⟨⟨j, h1, h2, h3⟩, y, hy, h⟩ | ⟨hno, y, h⟩
      · exact .inl ⟨⟨j, by omega, h2, h3⟩, y, hy, (rounds_next st).trans h⟩
      · refine .inr ⟨fun ⟨j, h1, h2, h3⟩ => ?_, y, (rounds_next st).trans h⟩
        rcases Nat.lt_or_ge i j with h4 | h4
        · exact hno ⟨j, h4, h2, h3⟩
        · have : j = i := by omega
          subst this
          exact hs h3
theorem has_eq (a0 a1 a2 a3 a4 a5 a6 a7 a8 a9 a10 a11 a12 a13 a14 a15 : Int) (h0 : ¬ a0 = 0) (m : Ms) (l : List Ms) (hl : l.length ≤ 1000000) : holdback_Hold_Has.f (m.1, m.2.1, m.2.2.1, m.2.2.2, a0, a1, a2, a3, a4, a5, a6, a7, a8, a9, a10, a11, a12, a13, a14, a15, l) = some (decide (has m l), a0, a1, a2, a3, a4, a5, a6, a7, a8, a9, a10, a11, a12, a13, a14, a15, l) := by
  unfold holdback_Hold_Has.f
  dsimp only
  rw [if_pos (by rw [decide_eq_false h0]; rfl), guardEq_self]
  rcases has_loop l.length 0 m l (by omega) hl with ⟨⟨j, _, h2, h3⟩, y, hy, h⟩ | ⟨hno, y, h⟩
  · have h' : rounds slices_IndexFunc_api_Message_api_Message.step0 (0, Int.ofNat l.length, m.1, m.2.1, m.2.2.1, m.2.2.2, l) = _ := h
    rw [h', Option.bind_some]
    dsimp only
    rw [decide_eq_true (show y ≥ 0 from hy), decide_eq_true (has_g.2 ⟨j, h2, h3⟩)]
  · have h' : rounds slices_IndexFunc_api_Message_api_Message.step0 (0, Int.ofNat l.length, m.1, m.2.1, m.2.2.1, m.2.2.2, l) = _ := h
    rw [h', Option.bind_some]
    dsimp only
    rw [decide_eq_false (fun q => hno (by obtain ⟨j, h1, h2⟩ := has_g.1 q; exact ⟨j, Nat.zero_le _, h1, h2⟩))]
/-- What putting a message answers. -/
def code (N R D L : Int) (m : Ms) (rd : Int) (l : List Ms) : Int :=
  if 0 ≤ m.1 ∧ m.1 ≤ 4294967296 ∧ 0 ≤ m.2.1 ∧ m.2.1 < N ∧ 0 ≤ m.2.2.1 ∧ m.2.2.1 ≤ 2147483647 ∧ (m.2.2.2.length : Int) ≤ L then
    if 0 ≤ rd ∧ rd ≤ 1099511627776 ∧ m.1 - rd ≤ R then if rd - m.1 > D - R then 241 else if has m l then 242 else 0 else 240
  else 240
/-- What is known of a plan. -/
structure Pln (N R D L : Int) : Prop where
  n : 4 ≤ N ∧ N ≤ 16
  r : 4 ≤ R ∧ R ≤ 16777216
  d : 4 * R ≤ D ∧ D ≤ 1073741824
  l : 0 ≤ L ∧ L ≤ 1000000
theorem pln (a0 a1 a2 a3 a4 a5 a6 a7 a8 a9 a10 a11 a12 a13 a14 a15 : Int) (h : FS a0 a1 a2 a3 a4 a5 a6 a7 a8 a9 a10 a11 a12 a13 a14 a15 = 0) : Pln a0 (a0 * a2) a11 a14 := by
  obtain ⟨h1, h2, h3, h4, h5, h6, h7, h8, _⟩ := fs_zero a0 a1 a2 a3 a4 a5 a6 a7 a8 a9 a10 a11 a12 a13 a14 a15 h
  have k1 := h1
  unfold KN C1 C2 C3 at k1
  have hr := rb ⟨k1.1.1, k1.1.2.1⟩ ⟨k1.2.2.1, k1.2.2.2.1⟩
  have hq := (qb h7).1
  have hm : 4 * (a0 * a2) ≤ (Q a12 a13 + 3) * (a0 * a2) := Int.mul_le_mul_of_nonneg_right (by omega) (by omega)
  have hg := gb (n := a0) (s := a2) (r := a8) ⟨k1.1.1, k1.1.2.1⟩ ⟨k1.2.2.1, k1.2.2.2.1⟩ (by omega)
  unfold UP A E at h2
  unfold C9 at h7
  exact ⟨⟨k1.1.1, k1.1.2.1⟩, hr, ⟨by omega, by omega⟩, by omega⟩
theorem put_eq (a0 a1 a2 a3 a4 a5 a6 a7 a8 a9 a10 a11 a12 a13 a14 a15 : Int) (h : FS a0 a1 a2 a3 a4 a5 a6 a7 a8 a9 a10 a11 a12 a13 a14 a15 = 0) (m : Ms) (rd : Int) (l : List Ms) (hl : l.length < 16384) :
    holdback_Hold_Put.f (m.1, m.2.1, m.2.2.1, m.2.2.2, rd, a0, a1, a2, a3, a4, a5, a6, a7, a8, a9, a10, a11, a12, a13, a14, a15, l) = some (code a0 (a0 * a2) a11 a14 m rd l, a0, a1, a2, a3, a4, a5, a6, a7, a8, a9, a10, a11, a12, a13, a14, a15, if code a0 (a0 * a2) a11 a14 m rd l = 0 then putL l m else l) := by
  have hp := pln a0 a1 a2 a3 a4 a5 a6 a7 a8 a9 a10 a11 a12 a13 a14 a15 h
  have hk := (fs_zero a0 a1 a2 a3 a4 a5 a6 a7 a8 a9 a10 a11 a12 a13 a14 a15 h).1
  obtain ⟨s, k, n, pl⟩ := m
  have hhas := has_eq a0 a1 a2 a3 a4 a5 a6 a7 a8 a9 a10 a11 a12 a13 a14 a15 (by have := hp.n; omega) (s, k, n, pl) l (by omega)
  have hup : ∃ j', rounds container_heap_up.step0 (wrap64 (Int.ofNat l.length + 1 - 1), a0, a1, a2, a3, a4, a5, a6, a7, a8, a9, a10, a11, a12, a13, a14, a15, l ++ [(s, k, n, pl)]) = some (.inl (j', a0, a1, a2, a3, a4, a5, a6, a7, a8, a9, a10, a11, a12, a13, a14, a15, putL l (s, k, n, pl))) := by
    rw [wr (Int.ofNat l.length + 1 - 1) (by show _ ≤ (l.length : Int) + 1 - 1 ∧ (l.length : Int) + 1 - 1 ≤ _; omega), show Int.ofNat l.length + 1 - 1 = ((l.length : Nat) : Int) by show (l.length : Int) + 1 - 1 = _; omega]
    exact up_loop (l.length + 1) l.length a0 a1 a2 a3 a4 a5 a6 a7 a8 a9 a10 a11 a12 a13 a14 a15 (l ++ [(s, k, n, pl)]) (by omega) (by simp) (by simp; omega)
  obtain ⟨j', hup⟩ := hup
  unfold holdback_Hold_Put.f
  dsimp only at hhas ⊢
  have n0 : ¬ a0 = 0 := by have := hp.n; omega
  rw [if_neg n0, pround_eq, if_pos hk, Option.bind_some]
  generalize a0 * a2 = R at hp
  obtain ⟨pn, pr, pd, pL⟩ := hp
  unfold code
  dsimp only
  by_cases c1 : s ≥ 0
  · rw [if_pos c1]
    by_cases c2 : s ≤ 4294967296
    · rw [if_pos c2]
      by_cases c3 : k ≥ 0
      · rw [if_pos c3]
        by_cases c4 : k < a0
        · rw [if_pos c4]
          by_cases c5 : n ≥ 0
          · rw [if_pos c5]
            by_cases c6 : n ≤ 2147483647
            · rw [if_pos c6]
              by_cases c7 : (pl.length : Int) ≤ a14
              · rw [if_neg (by rw [show Int.ofNat pl.length = (pl.length : Int) from rfl, decide_eq_true c7]; decide)]
                rw [if_pos (show 0 ≤ s ∧ s ≤ 4294967296 ∧ 0 ≤ k ∧ k < a0 ∧ 0 ≤ n ∧ n ≤ 2147483647 ∧ (pl.length : Int) ≤ a14 from ⟨c1, c2, c3, c4, c5, c6, c7⟩)]
                by_cases c8 : rd < 0
                · rw [if_pos c8, if_neg (fun q => by omega)]
                  rfl
                · rw [if_neg c8]
                  by_cases c9 : rd > 1099511627776
                  · rw [if_pos c9, if_neg (fun q => by omega)]
                    rfl
                  · rw [if_neg c9, wr (s - rd) (by omega)]
                    by_cases c10 : s - rd > R
                    · rw [if_pos c10, if_neg (fun q => by omega)]
                      rfl
                    · rw [if_neg c10, if_neg n0, if_neg (by show ¬ (l.length : Int) ≥ 16384; omega), wr (rd - s) (by omega), wr (a11 - R) (by omega), if_pos (show 0 ≤ rd ∧ rd ≤ 1099511627776 ∧ s - rd ≤ R from ⟨by omega, by omega, by omega⟩)]
                      by_cases c11 : rd - s > a11 - R
                      · rw [if_pos c11, if_pos c11]
                        rfl
                      · rw [if_neg c11, if_neg c11, hhas, Option.bind_some]
                        dsimp only
                        by_cases c12 : has (s, k, n, pl) l
                        · rw [if_pos (decide_eq_true c12), if_pos c12]
                          rfl
                        · rw [if_neg (by rw [decide_eq_false c12]; decide), if_neg c12]
                          have e1 : Int.ofNat l.length + 1 ≤ 2872193639904 := by show (l.length : Int) + 1 ≤ _; omega
                          have e2 : 0 + Int.ofNat pl.length ≤ 70368744177664 := by show 0 + (pl.length : Int) ≤ _; omega
                          simp only [if_pos e1, if_pos e2, List.nil_append, guardEq_self]
                          by_cases hz : pl = []
                          · subst hz
                            simp only [hup, Option.bind_some, Go.Proofs.Ytaoplfmaiclfkaa.SX.sameO_self, ite_self]
                            rfl
                          · have e3 : 1 ≤ Int.ofNat pl.length := by
                              have := List.length_pos_iff.2 hz
                              show (1 : Int) ≤ (pl.length : Int)
                              omega
                            simp only [if_pos e3, hup, Option.bind_some, Go.Proofs.Ytaoplfmaiclfkaa.SX.sameO_self]
                            rfl
              · rw [if_pos (by rw [show Int.ofNat pl.length = (pl.length : Int) from rfl, decide_eq_false c7]; decide), if_neg (fun q => c7 q.2.2.2.2.2.2)]
                rfl
            · rw [if_neg c6, if_neg (fun q => c6 q.2.2.2.2.2.1)]
              rfl
          · rw [if_neg c5, if_neg (fun q => c5 q.2.2.2.2.1)]
            rfl
        · rw [if_neg c4, if_neg (fun q => c4 q.2.2.2.1)]
          rfl
      · rw [if_neg c3, if_neg (fun q => c3 q.2.2.1)]
        rfl
    · rw [if_neg c2, if_neg (fun q => c2 q.2.1)]
      rfl
  · rw [if_neg c1, if_neg (fun q => c1 q.1)]
    rfl
/-- When the next one is due. -/
def duB (l : List Ms) : Bool := if l.length = 0 then false else true
def duT (D : Int) (l : List Ms) : Int := if l.length = 0 then 0 else (g l 0).1 + D
/-- Stamps that may be. -/
def St (l : List Ms) : Prop := ∀ e ∈ l, 0 ≤ e.1 ∧ e.1 ≤ 4294967296
theorem due_eq (a0 a1 a2 a3 a4 a5 a6 a7 a8 a9 a10 a11 a12 a13 a14 a15 : Int) (n0 : ¬ a0 = 0) (hd : 0 ≤ a11 ∧ a11 ≤ 1073741824) (l : List Ms) (hs : St l) : holdback_Hold_Due.f (a0, a1, a2, a3, a4, a5, a6, a7, a8, a9, a10, a11, a12, a13, a14, a15, l) = some (duT a11 l, duB l, a0, a1, a2, a3, a4, a5, a6, a7, a8, a9, a10, a11, a12, a13, a14, a15, l) := by
  unfold holdback_Hold_Due.f duT duB
  dsimp only
  rw [if_neg n0]
  by_cases h : l.length = 0
  · rw [if_pos (by show (l.length : Int) = 0; omega), if_pos h, if_pos h]
  · have := hs _ (g_mem (l := l) (i := 0) (by omega))
    rw [if_neg (by show ¬ (l.length : Int) = 0; omega), if_pos ⟨by omega, by show (0 : Int) < (l.length : Int); omega⟩, if_neg h, if_neg h]
    show some (wrap64 ((g l 0).1 + a11), _) = _
    rw [wr _ (by omega)]
theorem len_eq (a0 a1 a2 a3 a4 a5 a6 a7 a8 a9 a10 a11 a12 a13 a14 a15 : Int) (n0 : ¬ a0 = 0) (l : List Ms) : holdback_Hold_Len.f (a0, a1, a2, a3, a4, a5, a6, a7, a8, a9, a10, a11, a12, a13, a14, a15, l) = some ((l.length : Int), a0, a1, a2, a3, a4, a5, a6, a7, a8, a9, a10, a11, a12, a13, a14, a15, l) := by
  unfold holdback_Hold_Len.f
  dsimp only
  rw [if_neg n0]
  rfl
/-- What is taken, and what is left. -/
def tk (D rd : Int) : Nat → List Ms → List Ms × List Ms
  | 0, l => ([], l)
  | f + 1, l => if 0 < l.length ∧ (g l 0).1 + D ≤ rd then (g l 0 :: (tk D rd f (takeL l)).1, (tk D rd f (takeL l)).2) else ([], l)
def WL (l : List Ms) : Int := wrap64 (Int.ofNat l.length - 1)
def ripeRest (rd : Int) (out : List Ms) (a0 a1 a2 a3 a4 a5 a6 a7 a8 a9 a10 a11 a12 a13 a14 a15 : Int) (L : List Ms) : Option (holdback_Hold_ripe_1.X0 ⊕ (holdback_Hold_ripe_1.X0 ⊕ holdback_Hold_ripe_1.Y0)) :=
  if 0 ≤ WL L ∧ WL L < Int.ofNat L.length then (if 0 ≤ WL L then (if WL L ≤ Int.ofNat L.length then (if Int.ofNat out.length + 1 ≤ 2872193639904 then (if a0 = 0 then some (.inl (false, 0, rd, out ++ [g L (WL L).toNat], a0, a1, a2, a3, a4, a5, a6, a7, a8, a9, a10, a11, a12, a13, a14, a15, L.take (WL L).toNat)) else
    (if WL L = 0 then some (.inl (false, 0, rd, out ++ [g L (WL L).toNat], a0, a1, a2, a3, a4, a5, a6, a7, a8, a9, a10, a11, a12, a13, a14, a15, L.take (WL L).toNat)) else (if (0 : Int) ≤ (0 : Int) ∧ (0 : Int) < WL L then some (.inl (true, wrap64 ((g L (Int.toNat 0)).1 + a11), rd, out ++ [g L (WL L).toNat], a0, a1, a2, a3, a4, a5, a6, a7, a8, a9, a10, a11, a12, a13, a14, a15, L.take (WL L).toNat)) else none))) else none) else none) else none) else none
theorem ripe_def (b : Bool) (d rd : Int) (out : List Ms) (a0 a1 a2 a3 a4 a5 a6 a7 a8 a9 a10 a11 a12 a13 a14 a15 : Int) (l : List Ms) : holdback_Hold_ripe_1.step0 (b, d, rd, out, a0, a1, a2, a3, a4, a5, a6, a7, a8, a9, a10, a11, a12, a13, a14, a15, l) =
    (if b = true then (if d ≤ rd then (if 0 ≤ WL l ∧ WL l < Int.ofNat l.length then (if (0 : Int) ≤ (0 : Int) ∧ (0 : Int) < Int.ofNat l.length then (if (0 : Int) ≤ (0 : Int) ∧ (0 : Int) < Int.ofNat l.length then (if 0 ≤ WL l ∧ WL l < Int.ofNat l.length then
      ((container_heap_down.f (0, WL l, a0, a1, a2, a3, a4, a5, a6, a7, a8, a9, a10, a11, a12, a13, a14, a15, swap l (Int.toNat 0) (WL l).toNat)).bind fun t0 => ripeRest rd out t0.2.1 t0.2.2.1 t0.2.2.2.1 t0.2.2.2.2.1 t0.2.2.2.2.2.1 t0.2.2.2.2.2.2.1 t0.2.2.2.2.2.2.2.1 t0.2.2.2.2.2.2.2.2.1 t0.2.2.2.2.2.2.2.2.2.1 t0.2.2.2.2.2.2.2.2.2.2.1 t0.2.2.2.2.2.2.2.2.2.2.2.1 t0.2.2.2.2.2.2.2.2.2.2.2.2.1 t0.2.2.2.2.2.2.2.2.2.2.2.2.2.1 t0.2.2.2.2.2.2.2.2.2.2.2.2.2.2.1 t0.2.2.2.2.2.2.2.2.2.2.2.2.2.2.2.1 t0.2.2.2.2.2.2.2.2.2.2.2.2.2.2.2.2.1 t0.2.2.2.2.2.2.2.2.2.2.2.2.2.2.2.2.2) else none) else none) else none) else none) else some (.inr (.inl (b, d, rd, out, a0, a1, a2, a3, a4, a5, a6, a7, a8, a9, a10, a11, a12, a13, a14, a15, l)))) else some (.inr (.inl (b, d, rd, out, a0, a1, a2, a3, a4, a5, a6, a7, a8, a9, a10, a11, a12, a13, a14, a15, l)))) := rfl
theorem St.take {l : List Ms} (h : St l) (hl : 0 < l.length) : St (takeL l) := fun e he => h e ((takeL_perm hl).mem_iff.2 (List.mem_cons_of_mem _ he))
theorem ripe_next (rd : Int) (out : List Ms) (a0 a1 a2 a3 a4 a5 a6 a7 a8 a9 a10 a11 a12 a13 a14 a15 : Int) (n0 : ¬ a0 = 0) (hd : 0 ≤ a11 ∧ a11 ≤ 1073741824) (l : List Ms) (hs : St l) (h0 : 0 < l.length) (hr : (g l 0).1 + a11 ≤ rd) (hl : l.length ≤ 16384) (ho : out.length ≤ 1000000) :
    holdback_Hold_ripe_1.step0 (true, (g l 0).1 + a11, rd, out, a0, a1, a2, a3, a4, a5, a6, a7, a8, a9, a10, a11, a12, a13, a14, a15, l) = some (.inl (duB (takeL l), duT a11 (takeL l), rd, out ++ [g l 0], a0, a1, a2, a3, a4, a5, a6, a7, a8, a9, a10, a11, a12, a13, a14, a15, takeL l)) := by
  rw [ripe_def]
  have e : WL l = ((l.length - 1 : Nat) : Int) := by
    unfold WL
    show wrap64 ((l.length : Int) - 1) = _
    rw [wr _ (by omega)]
    omega
  have i1 : (0 : Int) ≤ 0 ∧ (0 : Int) < Int.ofNat l.length := ⟨by omega, by show _ < (l.length : Int); omega⟩
  have i2 : 0 ≤ ((l.length - 1 : Nat) : Int) ∧ ((l.length - 1 : Nat) : Int) < Int.ofNat l.length := ⟨by omega, by show _ < (l.length : Int); omega⟩
  rw [if_pos rfl, if_pos hr, e, if_pos i2, if_pos i1, if_pos i1, if_pos i2, Int.toNat_natCast]
  obtain ⟨b, hd2⟩ := down_eq 0 a0 a1 a2 a3 a4 a5 a6 a7 a8 a9 a10 a11 a12 a13 a14 a15 (l.length - 1) 0 l.length (swap l 0 (l.length - 1)) rfl (by omega) (by rw [swap_len]; omega) (by rw [swap_len]; omega) (by rw [swap_len]; omega) h0
  rw [show Int.toNat 0 = 0 from rfl, hd2, Option.bind_some]
  dsimp only
  have hlen : (downL l.length (swap l 0 (l.length - 1)) (l.length - 1) 0).length = l.length := by
    rw [(downL_perm _ _ _ _ (by rw [swap_len]; omega) (by rw [swap_len]; omega)).length_eq, swap_len]
  have hlast : g (downL l.length (swap l 0 (l.length - 1)) (l.length - 1) 0) (l.length - 1) = g l 0 := by
    rcases Nat.eq_zero_or_pos (l.length - 1) with hz | hz
    · have hn : l.length = 1 := by omega
      have : downL l.length (swap l 0 (l.length - 1)) (l.length - 1) 0 = l := by
        rw [hz]
        conv => lhs; rw [hn]
        unfold downL
        rw [if_pos (by omega), swap_self l 0 h0]
      rw [this, hz]
    · rw [downL_rest _ _ _ _ _ (by rw [swap_len]; omega) (by rw [swap_len]; omega) (Nat.le_refl _) hz, g_swap _ _ _ _ h0 (by omega), if_pos rfl]
  have hw : WL (downL l.length (swap l 0 (l.length - 1)) (l.length - 1) 0) = ((l.length - 1 : Nat) : Int) := by
    unfold WL at e ⊢
    rw [hlen, e]
  have htl : (takeL l).length = l.length - 1 := takeL_len h0
  unfold ripeRest
  rw [hw, hlen, if_pos i2, if_pos i2.1, if_pos (Int.le_of_lt i2.2), if_pos (by show (out.length : Int) + 1 ≤ _; omega), if_neg n0, Int.toNat_natCast, hlast]
  rcases Nat.eq_zero_or_pos (l.length - 1) with hz | hz
  · rw [if_pos (by omega)]
    unfold duB duT
    rw [if_pos (by omega), if_pos (by omega)]
    rfl
  · rw [if_neg (by omega), if_pos ⟨by omega, by omega⟩]
    unfold duB duT
    rw [if_neg (by omega), if_neg (by omega)]
    have hg : g (takeL l) 0 = g (downL l.length (swap l 0 (l.length - 1)) (l.length - 1) 0) 0 := g_take hz (by omega)
    have := (hs.take h0) _ (g_mem (l := takeL l) (i := 0) (by omega))
    rw [show Int.toNat 0 = 0 from rfl, ← hg, wr _ (by omega)]
    rfl
theorem ripe_stop (rd : Int) (out : List Ms) (a0 a1 a2 a3 a4 a5 a6 a7 a8 a9 a10 a11 a12 a13 a14 a15 : Int) (l : List Ms) (h : ¬ (0 < l.length ∧ (g l 0).1 + a11 ≤ rd)) : holdback_Hold_ripe_1.step0 (duB l, duT a11 l, rd, out, a0, a1, a2, a3, a4, a5, a6, a7, a8, a9, a10, a11, a12, a13, a14, a15, l) = some (.inr (.inl (duB l, duT a11 l, rd, out, a0, a1, a2, a3, a4, a5, a6, a7, a8, a9, a10, a11, a12, a13, a14, a15, l))) := by
  rw [ripe_def]
  unfold duB duT
  by_cases h0 : l.length = 0
  · rw [if_pos h0, if_neg (by decide)]
  · rw [if_neg h0, if_pos rfl, if_neg h0, if_neg (fun q => h ⟨by omega, q⟩)]
theorem ripe_loop : ∀ (f : Nat) (rd : Int) (out : List Ms) (a0 a1 a2 a3 a4 a5 a6 a7 a8 a9 a10 a11 a12 a13 a14 a15 : Int) (l : List Ms), ¬ a0 = 0 → (0 ≤ a11 ∧ a11 ≤ 1073741824) → St l → l.length ≤ f → l.length ≤ 16384 → out.length + f ≤ 1000000 →
    ∃ (b : Bool) (d : Int), rounds holdback_Hold_ripe_1.step0 (duB l, duT a11 l, rd, out, a0, a1, a2, a3, a4, a5, a6, a7, a8, a9, a10, a11, a12, a13, a14, a15, l) = some (.inl (b, d, rd, out ++ (tk a11 rd f l).1, a0, a1, a2, a3, a4, a5, a6, a7, a8, a9, a10, a11, a12, a13, a14, a15, (tk a11 rd f l).2))
  | 0, rd, out, a0, a1, a2, a3, a4, a5, a6, a7, a8, a9, a10, a11, a12, a13, a14, a15, l, n0, hd, hs, hf, hl, ho => by
    have st := ripe_stop rd out a0 a1 a2 a3 a4 a5 a6 a7 a8 a9 a10 a11 a12 a13 a14 a15 l (fun q => by omega)
    refine ⟨duB l, duT a11 l, ?_⟩
    unfold tk
    rw [List.append_nil]
    exact rounds_end st
  | f + 1, rd, out, a0, a1, a2, a3, a4, a5, a6, a7, a8, a9, a10, a11, a12, a13, a14, a15, l, n0, hd, hs, hf, hl, ho => by
    unfold tk
    by_cases h : 0 < l.length ∧ (g l 0).1 + a11 ≤ rd
    · rw [if_pos h]
      have hlt : (takeL l).length = l.length - 1 := takeL_len h.1
      obtain ⟨b, d, e⟩ := ripe_loop f rd (out ++ [g l 0]) a0 a1 a2 a3 a4 a5 a6 a7 a8 a9 a10 a11 a12 a13 a14 a15 (takeL l) n0 hd (hs.take h.1) (by omega) (by omega) (by simp; omega)
      refine ⟨b, d, ?_⟩
      have st := ripe_next rd out a0 a1 a2 a3 a4 a5 a6 a7 a8 a9 a10 a11 a12 a13 a14 a15 n0 hd l hs h.1 h.2 hl (by omega)
      have e1 : duB l = true := if_neg (by omega)
      have e2 : duT a11 l = (g l 0).1 + a11 := if_neg (by omega)
      rw [e1, e2, rounds_next st, e, List.append_assoc]
      rfl
    · rw [if_neg h]
      have st := ripe_stop rd out a0 a1 a2 a3 a4 a5 a6 a7 a8 a9 a10 a11 a12 a13 a14 a15 l h
      refine ⟨duB l, duT a11 l, ?_⟩
      rw [List.append_nil]
      exact rounds_end st
theorem take_eq (rd : Int) (a0 a1 a2 a3 a4 a5 a6 a7 a8 a9 a10 a11 a12 a13 a14 a15 : Int) (n0 : ¬ a0 = 0) (hd : 0 ≤ a11 ∧ a11 ≤ 1073741824) (l : List Ms) (hs : St l) (hl : l.length ≤ 16384) :
    holdback_Hold_Take.f (rd, a0, a1, a2, a3, a4, a5, a6, a7, a8, a9, a10, a11, a12, a13, a14, a15, l) = some (a0, a1, a2, a3, a4, a5, a6, a7, a8, a9, a10, a11, a12, a13, a14, a15, (tk a11 rd l.length l).2, (tk a11 rd l.length l).1) := by
  unfold holdback_Hold_Take.f
  dsimp only
  rw [if_neg n0, due_eq a0 a1 a2 a3 a4 a5 a6 a7 a8 a9 a10 a11 a12 a13 a14 a15 n0 hd l hs, Option.bind_some]
  dsimp only
  obtain ⟨b, d, e⟩ := ripe_loop l.length rd [] a0 a1 a2 a3 a4 a5 a6 a7 a8 a9 a10 a11 a12 a13 a14 a15 l n0 hd hs (Nat.le_refl _) hl (by simp; omega)
  rw [guardEq_self, e, Option.bind_some, List.nil_append]
theorem alive_ok : vesperslaw24_alive.f = some true := by
  unfold vesperslaw24_alive.f vesperslaw24_some.f
  have hF : FS 4 1 512 248 96 1 1 3 100000 88 64 10416 2 1 4 81920 = 0 := by decide
  have c1 : code 4 (4 * 512) 10416 4 (100, 2, 0, [2]) 100 [] = 0 := by decide
  have c2 : code 4 (4 * 512) 10416 4 (100, 1, 0, [1]) 300 [(100, 2, 0, [2])] = 0 := by decide
  have c3 : code 4 (4 * 512) 10416 4 (50, 3, 0, [3]) 400 [(100, 1, 0, [1]), (100, 2, 0, [2])] = 0 := by decide
  have p1 := put_eq 4 1 512 248 96 1 1 3 100000 88 64 10416 2 1 4 81920 hF (100, 2, 0, [2]) 100 [] (by decide)
  have p2 := put_eq 4 1 512 248 96 1 1 3 100000 88 64 10416 2 1 4 81920 hF (100, 1, 0, [1]) 300 [(100, 2, 0, [2])] (by decide)
  have p3 := put_eq 4 1 512 248 96 1 1 3 100000 88 64 10416 2 1 4 81920 hF (50, 3, 0, [3]) 400 [(100, 1, 0, [1]), (100, 2, 0, [2])] (by decide)
  have l1 : putL [] ((100, 2, 0, [2]) : Ms) = [(100, 2, 0, [2])] := rfl
  have l2 : putL [(100, 2, 0, [2])] ((100, 1, 0, [1]) : Ms) = [(100, 1, 0, [1]), (100, 2, 0, [2])] := by decide
  have l3 : putL [(100, 1, 0, [1]), (100, 2, 0, [2])] ((50, 3, 0, [3]) : Ms) = [(50, 3, 0, [3]), (100, 2, 0, [2]), (100, 1, 0, [1])] := by decide
  rw [c1, if_pos rfl, l1] at p1
  rw [c2, if_pos rfl, l2] at p2
  rw [c3, if_pos rfl, l3] at p3
  have hs : St [(50, 3, 0, [3]), (100, 2, 0, [2]), (100, 1, 0, [1])] := by unfold St; decide
  have d := due_eq 4 1 512 248 96 1 1 3 100000 88 64 10416 2 1 4 81920 (by decide) (by decide) _ hs
  have e := len_eq 4 1 512 248 96 1 1 3 100000 88 64 10416 2 1 4 81920 (by decide) [(50, 3, 0, [3]), (100, 2, 0, [2]), (100, 1, 0, [1])]
  dsimp only at p1 p2 p3
  simp only [Option.bind_some]
  rw [check_eq, if_pos hF, Option.bind_some, if_neg (by decide), p1, Option.bind_some]
  dsimp only
  rw [p2, Option.bind_some]
  dsimp only
  rw [p3, Option.bind_some]
  dsimp only
  rw [if_neg (by decide), if_neg (by decide), if_neg (by decide), d, Option.bind_some]
  dsimp only
  rw [if_pos (by decide), if_pos (by decide), e, Option.bind_some]
  rfl
theorem same_one (m : Ms) : vespersref24_Same.f ([m], [m]) = some true := by
  unfold vespersref24_Same.f
  rw [if_neg (fun h => h rfl), guardEq_self]
  have s1 : vespersref24_Same.step0 (0, [m], [m]) = some (.inl (1, [m], [m])) := by
    have d : vespersref24_Same.step0 (0, [m], [m]) = ((vespersref24_Compare.f (m.1, m.2.1, m.2.2.1, m.2.2.2, m.1, m.2.1, m.2.2.1, m.2.2.2)).bind fun t0 => if t0 ≠ 0 then some (.inr (.inr ())) else
      (if ¬ Go.Proofs.Ytaoplfmaiclfkaa.SX.natsOf (Go.Proofs.Ytaoplfmaiclfkaa.SX.bsOf m.2.2.2) = Go.Proofs.Ytaoplfmaiclfkaa.SX.natsOf (Go.Proofs.Ytaoplfmaiclfkaa.SX.bsOf m.2.2.2) then some (.inr (.inr ())) else some (.inl (wrap64 (0 + 1), [m], [m])))) := rfl
    rw [d]
    unfold vespersref24_Compare.f
    dsimp only
    rw [if_neg (Int.lt_irrefl _), if_neg (Int.lt_irrefl _), if_neg (Int.lt_irrefl _), if_neg (Int.lt_irrefl _), if_neg (Int.lt_irrefl _), if_neg (Int.lt_irrefl _), Option.bind_some, if_neg (fun h => h rfl), if_neg (fun h => h rfl), wr _ (by omega)]
    rfl
  have s2 : vespersref24_Same.step0 (1, [m], [m]) = some (.inr (.inl (1, [m], [m]))) := rfl
  rw [rounds_next s1, rounds_end s2]
  rfl
theorem proved : vesperslaw24_HoldbackTimes.Pure := by
  intro a0 a1 a2 a3 a4 a5 a6 a7 a8 a9 a10 a11 a12 a13 a14 a15 m at' before w0 w1 w2 w3 w4 w5 w6 w7 w8 w9 w10 w11 w12 w13 w14 w15 wm wat wbe
  unfold vesperslaw24_HoldbackTimes.f
  rw [alive_ok, check_eq]
  simp only [Option.bind_some]
  by_cases hF : FS a0 a1 a2 a3 a4 a5 a6 a7 a8 a9 a10 a11 a12 a13 a14 a15 = 0
  · rw [if_pos hF, if_neg (by decide)]
    by_cases hlen : Int.ofNat m.2.2.2.length > 100
    · rw [if_pos hlen]
    · rw [if_neg hlen, if_neg (by decide)]
      have hp := pln a0 a1 a2 a3 a4 a5 a6 a7 a8 a9 a10 a11 a12 a13 a14 a15 hF
      have hk := (fs_zero a0 a1 a2 a3 a4 a5 a6 a7 a8 a9 a10 a11 a12 a13 a14 a15 hF).1
      have n0 : ¬ a0 = 0 := by have := hp.n; omega
      have hd : 0 ≤ a11 ∧ a11 ≤ 1073741824 := by have := hp.r; have := hp.d; omega
      rw [if_neg (by decide), put_eq a0 a1 a2 a3 a4 a5 a6 a7 a8 a9 a10 a11 a12 a13 a14 a15 hF m at' [] (by decide), Option.bind_some]
      dsimp only
      by_cases hc : code a0 (a0 * a2) a11 a14 m at' [] = 0
      · rw [if_pos hc, hc, if_neg (by decide)]
        have e1 : putL [] m = [m] := rfl
        have hm : 0 ≤ m.1 ∧ m.1 ≤ 4294967296 ∧ 0 ≤ m.2.1 ∧ m.2.1 < a0 ∧ 0 ≤ m.2.2.1 ∧ m.2.2.1 ≤ 2147483647 ∧ (m.2.2.2.length : Int) ≤ a14 := by
          unfold code at hc
          by_cases h : 0 ≤ m.1 ∧ m.1 ≤ 4294967296 ∧ 0 ≤ m.2.1 ∧ m.2.1 < a0 ∧ 0 ≤ m.2.2.1 ∧ m.2.2.1 ≤ 2147483647 ∧ (m.2.2.2.length : Int) ≤ a14
          · exact h
          · rw [if_neg h] at hc
            omega
        have hs : St [m] := fun e he => by
          rw [List.mem_singleton.1 he]
          exact ⟨hm.1, hm.2.1⟩
        have et : duT a11 [m] = m.1 + a11 := rfl
        rw [e1, due_eq a0 a1 a2 a3 a4 a5 a6 a7 a8 a9 a10 a11 a12 a13 a14 a15 n0 hd _ hs, Option.bind_some]
        dsimp only
        rw [et, wr (m.1 + a11 - 1) (by omega), take_eq _ a0 a1 a2 a3 a4 a5 a6 a7 a8 a9 a10 a11 a12 a13 a14 a15 n0 hd _ hs (by show 1 ≤ 16384; decide), Option.bind_some]
        have t1 : tk a11 (m.1 + a11 - 1) [m].length [m] = ([], [m]) := by
          show tk a11 (m.1 + a11 - 1) (0 + 1) [m] = _
          unfold tk
          rw [if_neg (fun q => by have : m.1 + a11 ≤ m.1 + a11 - 1 := q.2; omega)]
        have t2 : tk a11 (m.1 + a11) [m].length [m] = ([m], []) := by
          show tk a11 (m.1 + a11) (0 + 1) [m] = _
          unfold tk
          rw [if_pos ⟨Nat.one_pos, Int.le_refl (m.1 + a11)⟩]
          rfl
        rw [t1]
        dsimp only
        rw [take_eq _ a0 a1 a2 a3 a4 a5 a6 a7 a8 a9 a10 a11 a12 a13 a14 a15 n0 hd _ hs (by show 1 ≤ 16384; decide), Option.bind_some, t2]
        dsimp only
        rw [if_neg (by show ¬ (!true) = true; decide), wr (m.1 + a11) (by omega), if_neg (fun q => q rfl), if_neg (fun q => q rfl)]
        have so := same_one m
        obtain ⟨ms, mk, mn, mp⟩ := m
        dsimp only at so hm ⊢
        rw [so, Option.bind_some, if_neg (by decide)]
        have late : ∀ x, 0 ≤ x → x < a0 * a2 → code a0 (a0 * a2) a11 a14 (ms, mk, mn, mp) (ms + a11 - x) [] = 241 := by
          intro x hx hx2
          have := hp.d
          have := hp.r
          unfold code
          rw [if_pos hm, if_pos ⟨by omega, by omega, by show ms - (ms + a11 - x) ≤ _; omega⟩, if_pos (by show ms + a11 - x - ms > _; omega)]
        have fin : ∀ x, 0 ≤ x → x < a0 * a2 → ((holdback_Hold_Put.f (ms, mk, mn, mp, ms + a11 - x, a0, a1, a2, a3, a4, a5, a6, a7, a8, a9, a10, a11, a12, a13, a14, a15, [])).bind fun t9 => if t9.1 = 241 then ((holdback_Hold_Len.f (t9.2.1, t9.2.2.1, t9.2.2.2.1, t9.2.2.2.2.1, t9.2.2.2.2.2.1, t9.2.2.2.2.2.2.1, t9.2.2.2.2.2.2.2.1, t9.2.2.2.2.2.2.2.2.1, t9.2.2.2.2.2.2.2.2.2.1, t9.2.2.2.2.2.2.2.2.2.2.1, t9.2.2.2.2.2.2.2.2.2.2.2.1, t9.2.2.2.2.2.2.2.2.2.2.2.2.1, t9.2.2.2.2.2.2.2.2.2.2.2.2.2.1, t9.2.2.2.2.2.2.2.2.2.2.2.2.2.2.1, t9.2.2.2.2.2.2.2.2.2.2.2.2.2.2.2.1, t9.2.2.2.2.2.2.2.2.2.2.2.2.2.2.2.2.1, t9.2.2.2.2.2.2.2.2.2.2.2.2.2.2.2.2.2)).bind fun t10 => some (decide (t10.1 = 0))) else some false) = some true := by
          intro x hx hx2
          have hput := put_eq a0 a1 a2 a3 a4 a5 a6 a7 a8 a9 a10 a11 a12 a13 a14 a15 hF (ms, mk, mn, mp) (ms + a11 - x) [] (by decide)
          rw [late x hx hx2, if_neg (by decide)] at hput
          dsimp only at hput
          rw [hput, Option.bind_some]
          dsimp only
          rw [if_pos rfl, len_eq a0 a1 a2 a3 a4 a5 a6 a7 a8 a9 a10 a11 a12 a13 a14 a15 n0, Option.bind_some]
          rfl
        have hr := hp.r
        have f0 := fin 0 (by omega) (by omega)
        rw [Int.sub_zero] at f0
        by_cases hb : before ≥ 0
        · rw [if_pos hb, pround_eq, if_pos hk, Option.bind_some]
          by_cases hb2 : before < a0 * a2
          · rw [if_pos hb2, if_pos trivial, wr (ms + a11 - before) (by omega)]
            exact fin before hb hb2
          · rw [if_neg hb2, if_pos trivial]
            exact f0
        · rw [if_neg hb, if_pos trivial]
          exact f0
      · rw [if_neg hc, if_pos hc, if_pos trivial]
        have h2 : code a0 (a0 * a2) a11 a14 m at' [] = 240 ∨ code a0 (a0 * a2) a11 a14 m at' [] = 241 := by
          unfold code at hc ⊢
          split
          · split
            · split
              · exact .inr rfl
              · rename_i q1 q2 q3
                rw [if_pos q1, if_pos q2, if_neg q3, if_neg (fun ⟨_, h, _⟩ => by cases h)] at hc
                exact absurd rfl hc
            · exact .inl rfl
          · exact .inl rfl
        rcases h2 with h2 | h2
        · rw [if_pos h2, len_eq a0 a1 a2 a3 a4 a5 a6 a7 a8 a9 a10 a11 a12 a13 a14 a15 n0, Option.bind_some]
          rfl
        · rw [h2, if_neg (by decide), if_pos rfl, len_eq a0 a1 a2 a3 a4 a5 a6 a7 a8 a9 a10 a11 a12 a13 a14 a15 n0, Option.bind_some]
          rfl
  · rw [if_neg hF, if_pos (by decide)]
end LHoldbackTimes
end Go.Proofs.Ytaoplfmaiclfkaa.Pure
