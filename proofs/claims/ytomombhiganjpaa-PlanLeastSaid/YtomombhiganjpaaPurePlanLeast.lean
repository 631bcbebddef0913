/- The least plan has the wishes, and may be; with a slot that is less by 1 and the least of all else there is none; with any greater horizon it may be. -/
import Derived.Test.YtomombhiganjpaaS1
namespace Go.Proofs.Ytomombhiganjpaa.Pure
open Go Go.RowKit Go.Proofs.Ytomombhiganjpaa.S
open Go.Proofs.Ytomombhiganjpaa.SX (guardEq_self rounds rounds_next rounds_end)
set_option linter.unusedVariables false
set_option linter.unusedSimpArgs false
namespace LPlanLeast
theorem wr (x : Int) (h : -9223372036854775808 ≤ x ∧ x ≤ 9223372036854775807) : wrap64 x = x := by unfold wrap64; omega
theorem tdiv_eq {x y : Int} (hx : 0 ≤ x) : Int.tdiv x y = x / y := Int.tdiv_eq_ediv_of_nonneg hx
abbrev C1 (n k : Int) : Prop := 4 ≤ n ∧ n ≤ 16 ∧ 0 ≤ k ∧ 2 * k + 2 ≤ n
abbrev C2 (air d1 d2 : Int) : Prop := 1 ≤ air ∧ air ≤ 1048576 ∧ 0 ≤ d1 ∧ d1 ≤ d2 ∧ d2 ≤ 1048576
abbrev C3 (s r : Int) : Prop := 1 ≤ s ∧ s ≤ 1048576 ∧ 4 ≤ r ∧ r ≤ 1048576
/-- A number from one to another, at most the longest slot. -/
abbrev UP (least x : Int) : Prop := least ≤ x ∧ x ≤ 1048576
abbrev C9 (q b p : Int) : Prop := 1 ≤ q ∧ q ≤ 64 ∧ 1 ≤ b ∧ b ≤ 8 ∧ 1 ≤ p ∧ p ≤ 32
abbrev KN (n k s air d1 d2 r : Int) : Prop := C1 n k ∧ C2 air d1 d2 ∧ C3 s r
def G (n s r : Int) : Int := 2 * (2 * (n * s) / r + 4)
abbrev E (d1 d2 : Int) : Int := d2 - d1 + 6
abbrev A (n s r d1 d2 : Int) : Int := 2 * (E d1 d2 + G n s r)
theorem rb {n s : Int} (h : 4 ≤ n ∧ n ≤ 16) (h2 : 1 ≤ s ∧ s ≤ 1048576) : 4 ≤ n * s ∧ n * s ≤ 16777216 := by
  have a := Int.mul_le_mul h.1 h2.1 (by omega) (by omega)
  have b := Int.mul_le_mul h.2 h2.2 (by omega) (by omega)
  omega
theorem gb {n s r : Int} (h : 4 ≤ n ∧ n ≤ 16) (h2 : 1 ≤ s ∧ s ≤ 1048576) (h3 : 4 ≤ r) : 0 ≤ 2 * (n * s) / r ∧ 2 * (n * s) / r ≤ 33554432 ∧ 8 ≤ G n s r ∧ G n s r ≤ 67108872 := by
  have a := rb h h2
  have b : 0 ≤ 2 * (n * s) / r := Int.ediv_nonneg (by omega) (by omega)
  have c : 2 * (n * s) / r ≤ 2 * (n * s) := Int.ediv_le_self _ (by omega)
  unfold G
  omega
theorem in_eq (a b c : Int) : plan_in.f a b c = some (decide (b ≤ a ∧ a ≤ c)) := by
  unfold plan_in.f
  by_cases h : a ≥ b
  · rw [if_pos h]; congr 1; rw [decide_eq_decide]; omega
  · rw [if_neg h]; congr 1; symm; exact decide_eq_false (by omega)
section
variable (a0 a1 a2 a3 a4 a5 a6 a7 a8 a9 a10 a11 a12 a13 a14 a15 : Int)
theorem nodes_eq : plan_look_nodes.f a0 a1 a2 a3 a4 a5 a6 a7 a8 a9 a10 a11 a12 a13 a14 a15 = some (decide (C1 a0 a1)) := by
  unfold plan_look_nodes.f
  rw [in_eq, Option.bind_some]
  by_cases h : 4 ≤ a0 ∧ a0 ≤ 16
  · rw [decide_eq_true h, if_pos rfl, in_eq, Option.bind_some, wr (a0 - 2) (by omega), tdiv_eq (by omega), wr ((a0 - 2) / 2) (by omega)]
    congr 1; rw [decide_eq_decide]; omega
  · rw [decide_eq_false h, if_neg (by decide)]; congr 1; symm; exact decide_eq_false (by omega)
theorem air_eq : plan_look_air.f a0 a1 a2 a3 a4 a5 a6 a7 a8 a9 a10 a11 a12 a13 a14 a15 = some (decide (C2 a5 a6 a7)) := by
  unfold plan_look_air.f
  rw [in_eq, Option.bind_some]
  by_cases h : 1 ≤ a5 ∧ a5 ≤ 1048576
  · rw [decide_eq_true h, if_pos rfl, in_eq, Option.bind_some]
    by_cases h2 : a6 ≥ 0
    · rw [if_pos h2]; congr 1; rw [decide_eq_decide]; omega
    · rw [if_neg h2]; congr 1; symm; exact decide_eq_false (by omega)
  · rw [decide_eq_false h, if_neg (by decide)]; congr 1; symm; exact decide_eq_false (by omega)
theorem slot_eq : plan_look_slot.f a0 a1 a2 a3 a4 a5 a6 a7 a8 a9 a10 a11 a12 a13 a14 a15 = some (decide (C3 a2 a8)) := by
  unfold plan_look_slot.f
  rw [in_eq, Option.bind_some]
  by_cases h : 1 ≤ a2 ∧ a2 ≤ 1048576
  · rw [decide_eq_true h, if_pos rfl, in_eq, Option.bind_some]
    congr 1; rw [decide_eq_decide]; omega
  · rw [decide_eq_false h, if_neg (by decide)]; congr 1; symm; exact decide_eq_false (by omega)
theorem known_eq : plan_look_known.f a0 a1 a2 a3 a4 a5 a6 a7 a8 a9 a10 a11 a12 a13 a14 a15 = some (decide (KN a0 a1 a2 a5 a6 a7 a8)) := by
  unfold plan_look_known.f
  rw [nodes_eq, air_eq, slot_eq]
  simp only [Option.bind_some]
  by_cases h1 : C1 a0 a1
  · by_cases h2 : C2 a5 a6 a7
    · rw [decide_eq_true h1, decide_eq_true h2, if_pos rfl, if_pos rfl]; congr 1; rw [decide_eq_decide]; exact ⟨fun h => ⟨h1, h2, h⟩, fun h => h.2.2⟩
    · rw [decide_eq_true h1, decide_eq_false h2, if_pos rfl, if_neg (by decide)]; congr 1; symm; exact decide_eq_false (fun h => h2 h.2.1)
  · rw [decide_eq_false h1, if_neg (by decide)]; congr 1; symm; exact decide_eq_false (fun h => h1 h.1)
theorem queue_eq : plan_look_queue.f a0 a1 a2 a3 a4 a5 a6 a7 a8 a9 a10 a11 a12 a13 a14 a15 = some (decide (C9 a12 a13 a14)) := by
  unfold plan_look_queue.f
  rw [in_eq, in_eq, in_eq]
  simp only [Option.bind_some]
  by_cases h : 1 ≤ a12 ∧ a12 ≤ 64
  · by_cases h2 : 1 ≤ a13 ∧ a13 ≤ 8
    · rw [decide_eq_true h, decide_eq_true h2, if_pos rfl, if_pos rfl]; congr 1; rw [decide_eq_decide]; omega
    · rw [decide_eq_true h, decide_eq_false h2, if_pos rfl, if_neg (by decide)]; congr 1; symm; exact decide_eq_false (by omega)
  · rw [decide_eq_false h, if_neg (by decide)]; congr 1; symm; exact decide_eq_false (by omega)
variable (H : KN a0 a1 a2 a5 a6 a7 a8)
include H
theorem e_eq : plan_look_e.f a0 a1 a2 a3 a4 a5 a6 a7 a8 a9 a10 a11 a12 a13 a14 a15 = some (E a6 a7) := by
  unfold plan_look_e.f
  rw [wr (a7 - a6) (by omega), wr _ (by omega)]
theorem round_eq : plan_look_round.f a0 a1 a2 a3 a4 a5 a6 a7 a8 a9 a10 a11 a12 a13 a14 a15 = some (a0 * a2) := by
  unfold plan_look_round.f
  have b := rb (n := a0) (s := a2) (by omega) (by omega)
  rw [wr _ (by omega)]
theorem g_eq : plan_look_g.f a0 a1 a2 a3 a4 a5 a6 a7 a8 a9 a10 a11 a12 a13 a14 a15 = some (G a0 a2 a8) := by
  unfold plan_look_g.f
  have b := rb (n := a0) (s := a2) (by omega) (by omega)
  have c := gb (n := a0) (s := a2) (r := a8) (by omega) (by omega) (by omega)
  have e1 : E a6 a7 = a7 - a6 + 6 := rfl
  have e2 : A a0 a2 a8 a6 a7 = 2 * (E a6 a7 + G a0 a2 a8) := rfl
  rw [round_eq (H := H), Option.bind_some, if_neg (by omega), wr (2 * (a0 * a2)) (by omega), tdiv_eq (by omega), wr (2 * (a0 * a2) / a8) (by omega), wr (2 * (a0 * a2) / a8 + 4) (by omega), wr _ (by omega)]
  rfl
theorem a_eq : plan_look_a.f a0 a1 a2 a3 a4 a5 a6 a7 a8 a9 a10 a11 a12 a13 a14 a15 = some (A a0 a2 a8 a6 a7) := by
  unfold plan_look_a.f
  have c := gb (n := a0) (s := a2) (r := a8) (by omega) (by omega) (by omega)
  have e1 : E a6 a7 = a7 - a6 + 6 := rfl
  have e2 : A a0 a2 a8 a6 a7 = 2 * (E a6 a7 + G a0 a2 a8) := rfl
  rw [e_eq (H := H), g_eq (H := H), Option.bind_some, Option.bind_some, wr (E a6 a7 + G a0 a2 a8) (by omega), wr _ (by omega)]
theorem leastPi_eq : plan_look_leastPi.f a0 a1 a2 a3 a4 a5 a6 a7 a8 a9 a10 a11 a12 a13 a14 a15 = some (2 * (A a0 a2 a8 a6 a7 + G a0 a2 a8) + E a6 a7) := by
  unfold plan_look_leastPi.f
  have c := gb (n := a0) (s := a2) (r := a8) (by omega) (by omega) (by omega)
  have e1 : E a6 a7 = a7 - a6 + 6 := rfl
  have e2 : A a0 a2 a8 a6 a7 = 2 * (E a6 a7 + G a0 a2 a8) := rfl
  rw [a_eq (H := H), g_eq (H := H), e_eq (H := H), Option.bind_some, Option.bind_some, Option.bind_some, wr (A a0 a2 a8 a6 a7 + G a0 a2 a8) (by omega), wr (2 * (A a0 a2 a8 a6 a7 + G a0 a2 a8)) (by omega), wr _ (by omega)]
theorem leastCap_eq : plan_look_leastCap.f a0 a1 a2 a3 a4 a5 a6 a7 a8 a9 a10 a11 a12 a13 a14 a15 = some (A a0 a2 a8 a6 a7 + 2 * G a0 a2 a8 + 2 * E a6 a7) := by
  unfold plan_look_leastCap.f
  have c := gb (n := a0) (s := a2) (r := a8) (by omega) (by omega) (by omega)
  have e1 : E a6 a7 = a7 - a6 + 6 := rfl
  have e2 : A a0 a2 a8 a6 a7 = 2 * (E a6 a7 + G a0 a2 a8) := rfl
  rw [a_eq (H := H), g_eq (H := H), e_eq (H := H), Option.bind_some, Option.bind_some, Option.bind_some, wr (2 * G a0 a2 a8) (by omega), wr (2 * E a6 a7) (by omega), wr (A a0 a2 a8 a6 a7 + 2 * G a0 a2 a8) (by omega), wr _ (by omega)]
theorem leastWindow_eq (hp : 0 ≤ a9 ∧ a9 ≤ 8589934592) : plan_look_leastWindow.f a0 a1 a2 a3 a4 a5 a6 a7 a8 a9 a10 a11 a12 a13 a14 a15 = some (a9 + E a6 a7) := by
  unfold plan_look_leastWindow.f
  have e1 : E a6 a7 = a7 - a6 + 6 := rfl
  rw [e_eq (H := H), Option.bind_some, wr _ (by omega)]
omit H in
theorem leastOff_eq (hp : 0 ≤ a9 ∧ a9 ≤ 8589934592) (hw : 0 ≤ a4 ∧ a4 ≤ 8589934592) (hc : 0 ≤ a10 ∧ a10 ≤ 8589934592) : plan_look_leastOff.f a0 a1 a2 a3 a4 a5 a6 a7 a8 a9 a10 a11 a12 a13 a14 a15 = some (a4 + a10 + a9) := by
  unfold plan_look_leastOff.f
  rw [wr (a4 + a10) (by omega), wr _ (by omega)]
theorem leastSlot_eq (hp : 0 ≤ a9 ∧ a9 ≤ 8589934592) (hw : 0 ≤ a4 ∧ a4 ≤ 8589934592) (hc : 0 ≤ a10 ∧ a10 ≤ 8589934592) (hs : 0 ≤ a3 ∧ a3 ≤ 34359738368) : plan_look_leastSlot.f a0 a1 a2 a3 a4 a5 a6 a7 a8 a9 a10 a11 a12 a13 a14 a15 = some (a3 + a4 + 2 * (a7 + a5) + a10 + a9 + 8) := by
  unfold plan_look_leastSlot.f
  rw [wr (a3 + a4) (by omega), wr (a7 + a5) (by omega), wr (2 * (a7 + a5)) (by omega), wr (a3 + a4 + 2 * (a7 + a5)) (by omega), wr (a3 + a4 + 2 * (a7 + a5) + a10) (by omega), wr (a3 + a4 + 2 * (a7 + a5) + a10 + a9) (by omega), wr _ (by omega)]
end
/-- In how many rounds a queue is sent. -/
def Q (q b : Int) : Int := (q + b - 1) / b
theorem qb {q b p : Int} (h : C9 q b p) : 1 ≤ Q q b ∧ Q q b ≤ 64 ∧ (q / b * b < q → q / b + 1 = Q q b) ∧ (¬ q / b * b < q → q / b = Q q b) ∧ 0 ≤ q / b ∧ q / b ≤ 64 ∧ 0 ≤ q / b * b ∧ q / b * b ≤ 64 := by
  unfold Q
  have : b = 1 ∨ b = 2 ∨ b = 3 ∨ b = 4 ∨ b = 5 ∨ b = 6 ∨ b = 7 ∨ b = 8 := by omega
  rcases this with rfl | rfl | rfl | rfl | rfl | rfl | rfl | rfl <;> omega
theorem mb {x r : Int} (hx : 0 ≤ x ∧ x ≤ 67) (hr : 4 ≤ r ∧ r ≤ 16777216) : 0 ≤ x * r ∧ x * r ≤ 1124073472 := by
  have a := Int.mul_nonneg hx.1 (show 0 ≤ r by omega)
  have b := Int.mul_le_mul hx.2 hr.2 (by omega) (by omega)
  omega
theorem leastDelta_eq (a0 a1 a2 a3 a4 a5 a6 a7 a8 a9 a10 a11 a12 a13 a14 a15 : Int) (H : KN a0 a1 a2 a5 a6 a7 a8) (hp : 0 ≤ a9 ∧ a9 ≤ 8589934592) (h9 : C9 a12 a13 a14) : plan_look_leastDelta.f a0 a1 a2 a3 a4 a5 a6 a7 a8 a9 a10 a11 a12 a13 a14 a15 = some ((Q a12 a13 + 3) * (a0 * a2) + 2 * a9) := by
  unfold plan_look_leastDelta.f
  have b := rb (n := a0) (s := a2) (by omega) (by omega)
  have q := qb h9
  have m := mb (x := Q a12 a13 + 3) (r := a0 * a2) (by omega) b
  have z : (a12 + a13 - 1) / a13 = Q a12 a13 := rfl
  rw [if_neg (by omega), round_eq (H := H), Option.bind_some, wr (a12 + a13) (by omega), wr (a12 + a13 - 1) (by omega), tdiv_eq (by omega), z, wr (Q a12 a13) (by omega), wr (Q a12 a13 + 3) (by omega), wr ((Q a12 a13 + 3) * (a0 * a2)) (by omega), wr (2 * a9) (by omega), wr _ (by omega)]
/-- The condition that a plan fails. -/
def FS (a0 a1 a2 a3 a4 a5 a6 a7 a8 a9 a10 a11 a12 a13 a14 a15 : Int) : Int :=
  if ¬ C1 a0 a1 then 1 else if ¬ C2 a5 a6 a7 then 2 else if ¬ C3 a2 a8 then 3
  else if ¬ UP (2 * (A a0 a2 a8 a6 a7 + G a0 a2 a8) + E a6 a7) a9 then 4 else if ¬ UP (a9 + E a6 a7) a4 then 5
  else if ¬ UP (A a0 a2 a8 a6 a7 + 2 * G a0 a2 a8 + 2 * E a6 a7) a10 then 6 else if ¬ UP (a4 + a10 + a9) a3 then 7
  else if ¬ a3 + a4 + 2 * (a7 + a5) + a10 + a9 + 8 ≤ a2 then 8 else if ¬ C9 a12 a13 a14 then 9
  else if ¬ ((Q a12 a13 + 3) * (a0 * a2) + 2 * a9 ≤ a11 ∧ a11 ≤ 64 * (a0 * a2)) then 10
  else if ¬ (40 * (a0 * a2) ≤ a15 ∧ a15 ≤ 2147483648) then 11 else 0
theorem ite_nn {p : Prop} [Decidable p] {x y : Int} (hx : 0 ≤ x) (hy : 0 ≤ y) : 0 ≤ if p then x else y := by split <;> assumption
theorem NN {p : Prop} (h : p) : ¬ ¬ p := fun x => x h
theorem NF : ¬ (false = true) := by decide
theorem fs_nonneg (a0 a1 a2 a3 a4 a5 a6 a7 a8 a9 a10 a11 a12 a13 a14 a15 : Int) : 0 ≤ FS a0 a1 a2 a3 a4 a5 a6 a7 a8 a9 a10 a11 a12 a13 a14 a15 := by
  unfold FS
  exact ite_nn (by decide) (ite_nn (by decide) (ite_nn (by decide) (ite_nn (by decide) (ite_nn (by decide) (ite_nn (by decide) (ite_nn (by decide) (ite_nn (by decide) (ite_nn (by decide) (ite_nn (by decide) (ite_nn (by decide) (by decide)))))))))))
theorem go_neg {α : Type} (x : Option α) (f : Bool → Option α) : ((some false).bind fun t => if (!t) = true then x else f t) = x := rfl
theorem go_pos {α : Type} (x : Option α) (f : Bool → Option α) : ((some true).bind fun t => if (!t) = true then x else f t) = f true := rfl
theorem fails_eq (a0 a1 a2 a3 a4 a5 a6 a7 a8 a9 a10 a11 a12 a13 a14 a15 : Int) : plan_Fails.f a0 a1 a2 a3 a4 a5 a6 a7 a8 a9 a10 a11 a12 a13 a14 a15 = some (FS a0 a1 a2 a3 a4 a5 a6 a7 a8 a9 a10 a11 a12 a13 a14 a15) := by
  unfold plan_Fails.f FS
  rw [nodes_eq]
  by_cases h1 : C1 a0 a1
  · rw [decide_eq_true h1, go_pos, if_neg (fun h => h h1), air_eq]
    by_cases h2 : C2 a5 a6 a7
    · rw [decide_eq_true h2, go_pos, if_neg (fun h => h h2), slot_eq]
      by_cases h3 : C3 a2 a8
      · have H : KN a0 a1 a2 a5 a6 a7 a8 := ⟨h1, h2, h3⟩
        have b := rb (n := a0) (s := a2) (by omega) (by omega)
        have c := gb (n := a0) (s := a2) (r := a8) (by omega) (by omega) (by omega)
        have e1 : E a6 a7 = a7 - a6 + 6 := rfl
        have e2 : A a0 a2 a8 a6 a7 = 2 * (E a6 a7 + G a0 a2 a8) := rfl
        rw [decide_eq_true h3, go_pos, if_neg (fun h => h h3)]
        rw [show plan_look_pi.f a0 a1 a2 a3 a4 a5 a6 a7 a8 a9 a10 a11 a12 a13 a14 a15 = some (decide (UP (2 * (A a0 a2 a8 a6 a7 + G a0 a2 a8) + E a6 a7) a9)) from by unfold plan_look_pi.f; rw [leastPi_eq (H := H), Option.bind_some, in_eq]; rfl]
        by_cases h4 : UP (2 * (A a0 a2 a8 a6 a7 + G a0 a2 a8) + E a6 a7) a9
        · rw [decide_eq_true h4, go_pos, if_neg (fun h => h h4)]
          rw [show plan_look_window.f a0 a1 a2 a3 a4 a5 a6 a7 a8 a9 a10 a11 a12 a13 a14 a15 = some (decide (UP (a9 + E a6 a7) a4)) from by unfold plan_look_window.f; rw [leastWindow_eq (H := H) (hp := by omega), Option.bind_some, in_eq]; rfl]
          by_cases h5 : UP (a9 + E a6 a7) a4
          · rw [decide_eq_true h5, go_pos, if_neg (fun h => h h5)]
            rw [show plan_look_limit.f a0 a1 a2 a3 a4 a5 a6 a7 a8 a9 a10 a11 a12 a13 a14 a15 = some (decide (UP (A a0 a2 a8 a6 a7 + 2 * G a0 a2 a8 + 2 * E a6 a7) a10)) from by unfold plan_look_limit.f; rw [leastCap_eq (H := H), Option.bind_some, in_eq]; rfl]
            by_cases h6 : UP (A a0 a2 a8 a6 a7 + 2 * G a0 a2 a8 + 2 * E a6 a7) a10
            · rw [decide_eq_true h6, go_pos, if_neg (fun h => h h6)]
              rw [show plan_look_sends.f a0 a1 a2 a3 a4 a5 a6 a7 a8 a9 a10 a11 a12 a13 a14 a15 = some (decide (UP (a4 + a10 + a9) a3)) from by unfold plan_look_sends.f; rw [leastOff_eq (hp := by omega) (hw := by omega) (hc := by omega), Option.bind_some, in_eq]; rfl]
              by_cases h7 : UP (a4 + a10 + a9) a3
              · rw [decide_eq_true h7, go_pos, if_neg (fun h => h h7)]
                rw [show plan_look_fits.f a0 a1 a2 a3 a4 a5 a6 a7 a8 a9 a10 a11 a12 a13 a14 a15 = some (decide (a3 + a4 + 2 * (a7 + a5) + a10 + a9 + 8 ≤ a2)) from by unfold plan_look_fits.f; rw [leastSlot_eq (H := H) (hp := by omega) (hw := by omega) (hc := by omega) (hs := by omega), Option.bind_some]]
                by_cases h8 : a3 + a4 + 2 * (a7 + a5) + a10 + a9 + 8 ≤ a2
                · rw [decide_eq_true h8, go_pos, if_neg (fun h => h h8), queue_eq]
                  by_cases h9 : C9 a12 a13 a14
                  · rw [decide_eq_true h9, go_pos, if_neg (fun h => h h9)]
                    rw [show plan_look_delta.f a0 a1 a2 a3 a4 a5 a6 a7 a8 a9 a10 a11 a12 a13 a14 a15 = some (decide ((Q a12 a13 + 3) * (a0 * a2) + 2 * a9 ≤ a11 ∧ a11 ≤ 64 * (a0 * a2))) from by unfold plan_look_delta.f; rw [leastDelta_eq (H := H) (hp := by omega) (h9 := h9), Option.bind_some, round_eq (H := H), Option.bind_some, wr (64 * (a0 * a2)) (by omega), in_eq]; rfl]
                    by_cases h10 : (Q a12 a13 + 3) * (a0 * a2) + 2 * a9 ≤ a11 ∧ a11 ≤ 64 * (a0 * a2)
                    · rw [decide_eq_true h10, go_pos, if_neg (fun h => h h10)]
                      rw [show plan_look_horizon.f a0 a1 a2 a3 a4 a5 a6 a7 a8 a9 a10 a11 a12 a13 a14 a15 = some (decide (40 * (a0 * a2) ≤ a15 ∧ a15 ≤ 2147483648)) from by unfold plan_look_horizon.f; rw [round_eq (H := H), Option.bind_some, wr (40 * (a0 * a2)) (by omega), in_eq]; rfl]
                      by_cases h11 : 40 * (a0 * a2) ≤ a15 ∧ a15 ≤ 2147483648
                      · rw [decide_eq_true h11, go_pos, if_neg (fun h => h h11)]
                      · rw [decide_eq_false h11, go_neg, if_pos h11]
                    · rw [decide_eq_false h10, go_neg, if_pos h10]
                  · rw [decide_eq_false h9, go_neg, if_pos h9]
                · rw [decide_eq_false h8, go_neg, if_pos h8]
              · rw [decide_eq_false h7, go_neg, if_pos h7]
            · rw [decide_eq_false h6, go_neg, if_pos h6]
          · rw [decide_eq_false h5, go_neg, if_pos h5]
        · rw [decide_eq_false h4, go_neg, if_pos h4]
      · rw [decide_eq_false h3, go_neg, if_pos h3]
    · rw [decide_eq_false h2, go_neg, if_pos h2]
  · rw [decide_eq_false h1, go_neg, if_pos h1]
/-- A plan that fails none. -/
theorem fs_zero (a0 a1 a2 a3 a4 a5 a6 a7 a8 a9 a10 a11 a12 a13 a14 a15 : Int) (h : FS a0 a1 a2 a3 a4 a5 a6 a7 a8 a9 a10 a11 a12 a13 a14 a15 = 0) : KN a0 a1 a2 a5 a6 a7 a8 ∧ UP (2 * (A a0 a2 a8 a6 a7 + G a0 a2 a8) + E a6 a7) a9 ∧ UP (a9 + E a6 a7) a4 ∧ UP (A a0 a2 a8 a6 a7 + 2 * G a0 a2 a8 + 2 * E a6 a7) a10 ∧ UP (a4 + a10 + a9) a3
    ∧ a3 + a4 + 2 * (a7 + a5) + a10 + a9 + 8 ≤ a2 ∧ C9 a12 a13 a14 ∧ ((Q a12 a13 + 3) * (a0 * a2) + 2 * a9 ≤ a11 ∧ a11 ≤ 64 * (a0 * a2)) ∧ (40 * (a0 * a2) ≤ a15 ∧ a15 ≤ 2147483648) := by
  unfold FS at h
  by_cases h1 : C1 a0 a1
  · rw [if_neg (fun x => x h1)] at h
    by_cases h2 : C2 a5 a6 a7
    · rw [if_neg (fun x => x h2)] at h
      by_cases h3 : C3 a2 a8
      · rw [if_neg (fun x => x h3)] at h
        by_cases h4 : UP (2 * (A a0 a2 a8 a6 a7 + G a0 a2 a8) + E a6 a7) a9
        · rw [if_neg (fun x => x h4)] at h
          by_cases h5 : UP (a9 + E a6 a7) a4
          · rw [if_neg (fun x => x h5)] at h
            by_cases h6 : UP (A a0 a2 a8 a6 a7 + 2 * G a0 a2 a8 + 2 * E a6 a7) a10
            · rw [if_neg (fun x => x h6)] at h
              by_cases h7 : UP (a4 + a10 + a9) a3
              · rw [if_neg (fun x => x h7)] at h
                by_cases h8 : a3 + a4 + 2 * (a7 + a5) + a10 + a9 + 8 ≤ a2
                · rw [if_neg (fun x => x h8)] at h
                  by_cases h9 : C9 a12 a13 a14
                  · rw [if_neg (fun x => x h9)] at h
                    by_cases h10 : (Q a12 a13 + 3) * (a0 * a2) + 2 * a9 ≤ a11 ∧ a11 ≤ 64 * (a0 * a2)
                    · rw [if_neg (fun x => x h10)] at h
                      by_cases h11 : 40 * (a0 * a2) ≤ a15 ∧ a15 ≤ 2147483648
                      · exact ⟨⟨h1, h2, h3⟩, h4, h5, h6, h7, h8, h9, h10, h11⟩
                      · rw [if_pos h11] at h; exact absurd h (by decide)
                    · rw [if_pos h10] at h; exact absurd h (by decide)
                  · rw [if_pos h9] at h; exact absurd h (by decide)
                · rw [if_pos h8] at h; exact absurd h (by decide)
              · rw [if_pos h7] at h; exact absurd h (by decide)
            · rw [if_pos h6] at h; exact absurd h (by decide)
          · rw [if_pos h5] at h; exact absurd h (by decide)
        · rw [if_pos h4] at h; exact absurd h (by decide)
      · rw [if_pos h3] at h; exact absurd h (by decide)
    · rw [if_pos h2] at h; exact absurd h (by decide)
  · rw [if_pos h1] at h; exact absurd h (by decide)
theorem pround_eq (a0 a1 a2 a3 a4 a5 a6 a7 a8 a9 a10 a11 a12 a13 a14 a15 : Int) : plan_Round.f a0 a1 a2 a3 a4 a5 a6 a7 a8 a9 a10 a11 a12 a13 a14 a15 = some (if KN a0 a1 a2 a5 a6 a7 a8 then a0 * a2 else 0) := by
  unfold plan_Round.f
  rw [known_eq, Option.bind_some]
  by_cases H : KN a0 a1 a2 a5 a6 a7 a8
  · rw [decide_eq_true H, if_pos rfl, if_pos H, round_eq (H := H)]; rfl
  · rw [decide_eq_false H, if_neg (by decide), if_neg H]
theorem check_eq (a0 a1 a2 a3 a4 a5 a6 a7 a8 a9 a10 a11 a12 a13 a14 a15 : Int) : plan_Check.f a0 a1 a2 a3 a4 a5 a6 a7 a8 a9 a10 a11 a12 a13 a14 a15 = some (if FS a0 a1 a2 a3 a4 a5 a6 a7 a8 a9 a10 a11 a12 a13 a14 a15 = 0 then 0 else 70) := by
  unfold plan_Check.f
  rw [fails_eq, Option.bind_some]
  by_cases h : FS a0 a1 a2 a3 a4 a5 a6 a7 a8 a9 a10 a11 a12 a13 a14 a15 = 0
  · rw [if_neg (fun x => x h), if_pos h]
  · rw [if_pos h, if_neg h]
theorem rnumbers_eq (a0 a1 a2 a3 a4 a5 a6 a7 a8 a9 a10 a11 a12 a13 a14 a15 : Int) (H : KN a0 a1 a2 a5 a6 a7 a8) : vespersref07_numbers.f a0 a1 a2 a3 a4 a5 a6 a7 a8 a9 a10 a11 a12 a13 a14 a15 = some (E a6 a7, G a0 a2 a8, A a0 a2 a8 a6 a7) := by
  unfold vespersref07_numbers.f
  have b := rb (n := a0) (s := a2) (by omega) (by omega)
  have c := gb (n := a0) (s := a2) (r := a8) (by omega) (by omega) (by omega)
  have e1 : E a6 a7 = a7 - a6 + 6 := rfl
  have e2 : A a0 a2 a8 a6 a7 = 2 * (E a6 a7 + G a0 a2 a8) := rfl
  have z : 2 * (2 * (a0 * a2) / a8 + 4) = G a0 a2 a8 := rfl
  rw [if_neg (by omega), wr (a7 - a6) (by omega), wr (a7 - a6 + 6) (by omega), wr (a0 * a2) (by omega), wr (2 * (a0 * a2)) (by omega), tdiv_eq (by omega), wr (2 * (a0 * a2) / a8) (by omega), wr (2 * (a0 * a2) / a8 + 4) (by omega), z, wr (G a0 a2 a8) (by omega), wr (a7 - a6 + 6 + G a0 a2 a8) (by omega), wr _ (by omega)]
theorem five_one {α : Type} (n k m : Int) (hm : 0 ≤ k → k ≤ 16 → m = 2 * k + 2) (v R : α) : (if n < 4 then v else if n > 16 then v else if k < 0 then v else if k > 16 then v else if n < m then v else R) = if ¬ C1 n k then v else R := by
  by_cases g : 0 ≤ k ∧ k ≤ 16
  · rw [hm g.1 g.2]
    by_cases h : C1 n k
    · rw [if_neg (NN h), if_neg (by omega), if_neg (by omega), if_neg (by omega), if_neg (by omega), if_neg (by omega)]
    · rw [if_pos h]
      repeat' split
      all_goals first | rfl | (exfalso; omega)
  · rw [if_pos (fun x : C1 n k => g ⟨by omega, by omega⟩)]
    repeat' split
    all_goals first | rfl | (exfalso; omega)
theorem five_two {α : Type} (air d1 d2 : Int) (v R : α) : (if air < 1 then v else if air > 1048576 then v else if d1 < 0 then v else if d2 < d1 then v else if d2 > 1048576 then v else R) = if ¬ C2 air d1 d2 then v else R := by
  by_cases h : C2 air d1 d2
  · rw [if_neg (NN h), if_neg (by omega), if_neg (by omega), if_neg (by omega), if_neg (by omega), if_neg (by omega)]
  · rw [if_pos h]
    repeat' split
    all_goals first | rfl | (exfalso; omega)
theorem four_three {α : Type} (s r : Int) (v R : α) : (if s < 1 then v else if s > 1048576 then v else if r < 4 then v else if r > 1048576 then v else R) = if ¬ C3 s r then v else R := by
  by_cases h : C3 s r
  · rw [if_neg (NN h), if_neg (by omega), if_neg (by omega), if_neg (by omega), if_neg (by omega)]
  · rw [if_pos h]
    repeat' split
    all_goals first | rfl | (exfalso; omega)
theorem rfirst_eq (a0 a1 a2 a3 a4 a5 a6 a7 a8 a9 a10 a11 a12 a13 a14 a15 : Int) : vespersref07_first.f a0 a1 a2 a3 a4 a5 a6 a7 a8 a9 a10 a11 a12 a13 a14 a15 = some (if ¬ C1 a0 a1 then 1 else if ¬ C2 a5 a6 a7 then 2 else if ¬ C3 a2 a8 then 3 else 0) := by
  unfold vespersref07_first.f
  rw [five_one a0 a1 (wrap64 (wrap64 (2 * a1) + 2)) (fun g g' => by rw [wr (2 * a1) (by omega), wr (2 * a1 + 2) (by omega)]), five_two, four_three]
  split
  · rfl
  · split
    · rfl
    · split <;> rfl
theorem two_up {α : Type} (x l : Int) (v R : α) : (if x < l then v else if x > 1048576 then v else R) = if ¬ UP l x then v else R := by
  repeat' split
  all_goals first | rfl | (exfalso; omega)
theorem two_in {α : Type} (x l u : Int) (v R : α) : (if x < l then v else if x > u then v else R) = if ¬ (l ≤ x ∧ x ≤ u) then v else R := by
  repeat' split
  all_goals first | rfl | (exfalso; omega)
theorem six_nine {α : Type} (q b p : Int) (v R : α) : (if q < 1 then v else if q > 64 then v else if b < 1 then v else if b > 8 then v else if p < 1 then v else if p > 32 then v else R) = if ¬ C9 q b p then v else R := by
  by_cases h : C9 q b p
  · rw [if_neg (NN h), if_neg (by omega), if_neg (by omega), if_neg (by omega), if_neg (by omega), if_neg (by omega), if_neg (by omega)]
  · rw [if_pos h]
    repeat' split
    all_goals first | rfl | (exfalso; omega)
theorem rfails_eq (a0 a1 a2 a3 a4 a5 a6 a7 a8 a9 a10 a11 a12 a13 a14 a15 : Int) : vespersref07_Fails.f a0 a1 a2 a3 a4 a5 a6 a7 a8 a9 a10 a11 a12 a13 a14 a15 = some (FS a0 a1 a2 a3 a4 a5 a6 a7 a8 a9 a10 a11 a12 a13 a14 a15) := by
  unfold vespersref07_Fails.f FS
  rw [rfirst_eq, Option.bind_some]
  by_cases h1 : C1 a0 a1
  · by_cases h2 : C2 a5 a6 a7
    · by_cases h3 : C3 a2 a8
      · have H : KN a0 a1 a2 a5 a6 a7 a8 := ⟨h1, h2, h3⟩
        have b := rb (n := a0) (s := a2) (by omega) (by omega)
        have c := gb (n := a0) (s := a2) (r := a8) (by omega) (by omega) (by omega)
        have e1 : E a6 a7 = a7 - a6 + 6 := rfl
        have e2 : A a0 a2 a8 a6 a7 = 2 * (E a6 a7 + G a0 a2 a8) := rfl
        have e0 : (if ¬ C1 a0 a1 then (1 : Int) else if ¬ C2 a5 a6 a7 then 2 else if ¬ C3 a2 a8 then 3 else 0) = 0 := by rw [if_neg (NN h1), if_neg (NN h2), if_neg (NN h3)]
        rw [e0, if_neg (by decide), rnumbers_eq (H := H), Option.bind_some, if_neg (NN h1), if_neg (NN h2), if_neg (NN h3)]
        dsimp only
        rw [two_up, two_up, two_up, two_up, six_nine, wr (A a0 a2 a8 a6 a7 + G a0 a2 a8) (by omega), wr (2 * (A a0 a2 a8 a6 a7 + G a0 a2 a8)) (by omega), wr (2 * (A a0 a2 a8 a6 a7 + G a0 a2 a8) + E a6 a7) (by omega)]
        by_cases h4 : UP (2 * (A a0 a2 a8 a6 a7 + G a0 a2 a8) + E a6 a7) a9
        · rw [if_neg (NN h4), if_neg (NN h4), wr (a9 + E a6 a7) (by omega)]
          by_cases h5 : UP (a9 + E a6 a7) a4
          · rw [if_neg (NN h5), if_neg (NN h5), wr (2 * G a0 a2 a8) (by omega), wr (A a0 a2 a8 a6 a7 + 2 * G a0 a2 a8) (by omega), wr (2 * E a6 a7) (by omega), wr (A a0 a2 a8 a6 a7 + 2 * G a0 a2 a8 + 2 * E a6 a7) (by omega)]
            by_cases h6 : UP (A a0 a2 a8 a6 a7 + 2 * G a0 a2 a8 + 2 * E a6 a7) a10
            · rw [if_neg (NN h6), if_neg (NN h6), wr (a4 + a10) (by omega), wr (a4 + a10 + a9) (by omega)]
              by_cases h7 : UP (a4 + a10 + a9) a3
              · rw [if_neg (NN h7), if_neg (NN h7), wr (a3 + a4) (by omega), wr (2 * a7) (by omega), wr (a3 + a4 + 2 * a7) (by omega), wr (2 * a5) (by omega), wr (a3 + a4 + 2 * a7 + 2 * a5) (by omega), wr (a3 + a4 + 2 * a7 + 2 * a5 + a10) (by omega), wr (a3 + a4 + 2 * a7 + 2 * a5 + a10 + a9) (by omega), wr (a3 + a4 + 2 * a7 + 2 * a5 + a10 + a9 + 8) (by omega)]
                by_cases h8 : a3 + a4 + 2 * (a7 + a5) + a10 + a9 + 8 ≤ a2
                · rw [if_neg (show ¬ a2 < a3 + a4 + 2 * a7 + 2 * a5 + a10 + a9 + 8 by omega), if_neg (NN h8)]
                  by_cases h9 : C9 a12 a13 a14
                  · have q := qb h9
                    have m := mb (x := Q a12 a13 + 3) (r := a0 * a2) (by omega) b
                    rw [if_neg (NN h9), if_neg (NN h9), if_neg (by omega), tdiv_eq (by omega), wr (a12 / a13) (by omega), wr (a12 / a13 * a13) (by omega), wr (a0 * a2) (by omega), wr (64 * (a0 * a2)) (by omega), wr (40 * (a0 * a2)) (by omega), wr (2 * a9) (by omega)]
                    have e : (if a12 / a13 * a13 < a12 then wrap64 (wrap64 (wrap64 (a12 / a13 + 1) + 3) * (a0 * a2)) else wrap64 (wrap64 (a12 / a13 + 3) * (a0 * a2))) = (Q a12 a13 + 3) * (a0 * a2) := by
                      by_cases g : a12 / a13 * a13 < a12
                      · rw [if_pos g, q.2.2.1 g, wr (Q a12 a13) (by omega), wr (Q a12 a13 + 3) (by omega), wr _ (by omega)]
                      · rw [if_neg g, q.2.2.2.1 g, wr (Q a12 a13 + 3) (by omega), wr _ (by omega)]
                    by_cases g : a12 / a13 * a13 < a12
                    · rw [if_pos g] at e ⊢
                      rw [e, wr ((Q a12 a13 + 3) * (a0 * a2) + 2 * a9) (by omega), two_in, two_in]
                      by_cases h10 : (Q a12 a13 + 3) * (a0 * a2) + 2 * a9 ≤ a11 ∧ a11 ≤ 64 * (a0 * a2)
                      · rw [if_neg (NN h10), if_neg (NN h10)]
                        split <;> rfl
                      · rw [if_pos h10, if_pos h10]
                    · rw [if_neg g] at e ⊢
                      rw [e, wr ((Q a12 a13 + 3) * (a0 * a2) + 2 * a9) (by omega), two_in, two_in]
                      by_cases h10 : (Q a12 a13 + 3) * (a0 * a2) + 2 * a9 ≤ a11 ∧ a11 ≤ 64 * (a0 * a2)
                      · rw [if_neg (NN h10), if_neg (NN h10)]
                        split <;> rfl
                      · rw [if_pos h10, if_pos h10]
                  · rw [if_pos h9, if_pos h9]
                · rw [if_pos (show a2 < a3 + a4 + 2 * a7 + 2 * a5 + a10 + a9 + 8 by omega), if_pos h8]
              · rw [if_pos h7, if_pos h7]
            · rw [if_pos h6, if_pos h6]
          · rw [if_pos h5, if_pos h5]
        · rw [if_pos h4, if_pos h4]
      · have e0 : (if ¬ C1 a0 a1 then (1 : Int) else if ¬ C2 a5 a6 a7 then 2 else if ¬ C3 a2 a8 then 3 else 0) = 3 := by rw [if_neg (NN h1), if_neg (NN h2), if_pos h3]
        rw [e0, if_pos (by decide), if_neg (NN h1), if_neg (NN h2), if_pos h3]
    · have e0 : (if ¬ C1 a0 a1 then (1 : Int) else if ¬ C2 a5 a6 a7 then 2 else if ¬ C3 a2 a8 then 3 else 0) = 2 := by rw [if_neg (NN h1), if_pos h2]
      rw [e0, if_pos (by decide), if_neg (NN h1), if_pos h2]
  · have e0 : (if ¬ C1 a0 a1 then (1 : Int) else if ¬ C2 a5 a6 a7 then 2 else if ¬ C3 a2 a8 then 3 else 0) = 1 := by rw [if_pos h1]
    rw [e0, if_pos (by decide), if_pos h1]
theorem rcheck_eq (a0 a1 a2 a3 a4 a5 a6 a7 a8 a9 a10 a11 a12 a13 a14 a15 : Int) : vespersref07_Check.f a0 a1 a2 a3 a4 a5 a6 a7 a8 a9 a10 a11 a12 a13 a14 a15 = some (if FS a0 a1 a2 a3 a4 a5 a6 a7 a8 a9 a10 a11 a12 a13 a14 a15 = 0 then 0 else 70) := by
  unfold vespersref07_Check.f
  have z := fs_nonneg (a0 := a0) (a1 := a1) (a2 := a2) (a3 := a3) (a4 := a4) (a5 := a5) (a6 := a6) (a7 := a7) (a8 := a8) (a9 := a9) (a10 := a10) (a11 := a11) (a12 := a12) (a13 := a13) (a14 := a14) (a15 := a15)
  rw [rfails_eq, Option.bind_some]
  by_cases h : FS a0 a1 a2 a3 a4 a5 a6 a7 a8 a9 a10 a11 a12 a13 a14 a15 = 0
  · rw [if_neg (by omega), if_pos h]
  · rw [if_pos (by omega), if_neg h]
theorem rround_eq (a0 a1 a2 a3 a4 a5 a6 a7 a8 a9 a10 a11 a12 a13 a14 a15 : Int) : vespersref07_Round.f a0 a1 a2 a3 a4 a5 a6 a7 a8 a9 a10 a11 a12 a13 a14 a15 = some (if KN a0 a1 a2 a5 a6 a7 a8 then a0 * a2 else 0) := by
  unfold vespersref07_Round.f
  rw [rfirst_eq, Option.bind_some]
  by_cases H : KN a0 a1 a2 a5 a6 a7 a8
  · have b := rb (n := a0) (s := a2) (by omega) (by omega)
    rw [if_pos H, if_neg (NN H.1), if_neg (NN H.2.1), if_neg (NN H.2.2), if_neg (by decide), wr (a0 * a2) (by omega)]
  · rw [if_neg H, if_pos]
    by_cases h1 : C1 a0 a1
    · rw [if_neg (NN h1)]
      by_cases h2 : C2 a5 a6 a7
      · rw [if_neg (NN h2), if_pos (fun h3 => H ⟨h1, h2, h3⟩)]; decide
      · rw [if_pos h2]; decide
    · rw [if_pos h1]; decide
/-- The plan that has wishes and a slot's length, and the least of all else. -/
abbrev PLN : Type := Int × Int × Int × Int × Int × Int × Int × Int × Int × Int × Int × Int × Int × Int × Int × Int
def lPi (n s r d1 d2 : Int) : Int := 2 * (A n s r d1 d2 + G n s r) + E d1 d2
def lWin (n s r d1 d2 : Int) : Int := lPi n s r d1 d2 + E d1 d2
def lCap (n s r d1 d2 : Int) : Int := A n s r d1 d2 + 2 * G n s r + 2 * E d1 d2
def lOff (n s r d1 d2 : Int) : Int := lWin n s r d1 d2 + lCap n s r d1 d2 + lPi n s r d1 d2
def lDel (n s r d1 d2 q b : Int) : Int := (Q q b + 3) * (n * s) + 2 * lPi n s r d1 d2
def lHor (n s : Int) : Int := 40 * (n * s)
def want (n s r air d1 d2 : Int) : Int := lOff n s r d1 d2 + lWin n s r d1 d2 + 2 * (d2 + air) + lCap n s r d1 d2 + lPi n s r d1 d2 + 8
theorem least_bd {n k s air d1 d2 r : Int} (H : KN n k s air d1 d2 r) : 0 ≤ lPi n s r d1 d2 ∧ lPi n s r d1 d2 ≤ 536870912 ∧ 0 ≤ lWin n s r d1 d2 ∧ lWin n s r d1 d2 ≤ 1073741824 ∧ 0 ≤ lCap n s r d1 d2 ∧ lCap n s r d1 d2 ≤ 536870912 ∧ 0 ≤ lOff n s r d1 d2 ∧ lOff n s r d1 d2 ≤ 4294967296 := by
  have c := gb (n := n) (s := s) (r := r) (by omega) (by omega) (by omega)
  have e1 : E d1 d2 = d2 - d1 + 6 := rfl
  have e2 : A n s r d1 d2 = 2 * (E d1 d2 + G n s r) := rfl
  unfold lOff lWin lCap lPi
  omega
section
variable (a0 a1 a2 a3 a4 a5 a6 a7 a8 a9 a10 a11 a12 a13 a14 a15 : Int)
theorem leastSlot_want (H : KN a0 a1 a2 a5 a6 a7 a8) : plan_look_leastSlot.f a0 a1 a2 (lOff a0 a2 a8 a6 a7) (lWin a0 a2 a8 a6 a7) a5 a6 a7 a8 (lPi a0 a2 a8 a6 a7) (lCap a0 a2 a8 a6 a7) a11 a12 a13 a14 a15 = some (want a0 a2 a8 a5 a6 a7) := by
  have d := least_bd H
  rw [leastSlot_eq (H := H) (hp := by omega) (hw := by omega) (hc := by omega) (hs := by omega)]
  rfl
end
/-- The least plan of a slot's length. -/
abbrev LST (n k s air d1 d2 r q b p : Int) : PLN := (n, k, s, lOff n s r d1 d2, lWin n s r d1 d2, air, d1, d2, r, lPi n s r d1 d2, lCap n s r d1 d2, lDel n s r d1 d2 q b, q, b, p, lHor n s)
theorem fit_step {n k s air d1 d2 r q b p : Int} (H : KN n k s air d1 d2 r) (h1 : C1 n k) (h2 : C2 air d1 d2) (h3 : 4 ≤ r ∧ r ≤ 1048576) (h9 : C9 q b p) (hs : 1 ≤ s) :
    plan_Fit.step0 (LST n k s air d1 d2 r q b p) = if s < want n s r air d1 d2 then (if want n s r air d1 d2 > 1048576 then some (.inr (.inr ())) else some (.inl (LST n k (want n s r air d1 d2) air d1 d2 r q b p))) else some (.inr (.inl (LST n k s air d1 d2 r q b p))) := by
  unfold plan_Fit.step0
  dsimp only [LST]
  rw [leastSlot_want (H := H), Option.bind_some]
  by_cases c : s < want n s r air d1 d2
  · rw [if_pos c, if_pos c, Option.bind_some]
    by_cases c2 : want n s r air d1 d2 > 1048576
    · rw [if_pos c2, if_pos c2]
    · rw [if_neg c2, if_neg c2]
      generalize hw : want n s r air d1 d2 = t at *
      have H2 : KN n k t air d1 d2 r := ⟨h1, h2, by omega, by omega, h3⟩
      have d := least_bd H2
      have bb := rb (n := n) (s := t) (by omega) (by omega)
      rw [leastPi_eq (H := H2), Option.bind_some]
      have z1 : 2 * (A n t r d1 d2 + G n t r) + E d1 d2 = lPi n t r d1 d2 := rfl
      rw [z1, leastWindow_eq (H := H2) (hp := by omega), Option.bind_some]
      have z2 : lPi n t r d1 d2 + E d1 d2 = lWin n t r d1 d2 := rfl
      rw [z2, leastCap_eq (H := H2), Option.bind_some]
      have z3 : A n t r d1 d2 + 2 * G n t r + 2 * E d1 d2 = lCap n t r d1 d2 := rfl
      rw [z3, leastOff_eq (hp := by omega) (hw := by omega) (hc := by omega), Option.bind_some]
      have z4 : lWin n t r d1 d2 + lCap n t r d1 d2 + lPi n t r d1 d2 = lOff n t r d1 d2 := rfl
      rw [z4, leastDelta_eq (H := H2) (hp := by omega) (h9 := h9), Option.bind_some, round_eq (H := H2), Option.bind_some, wr (40 * (n * t)) (by omega)]
      rfl
  · rw [if_neg c, if_neg c]
/-- The least plan for wishes, from a slot's length on. -/
def FT (n k air d1 d2 r q b p : Int) : Nat → Int → PLN × Int
  | 0, _ => ((0, 0, 0, 0, 0, 0, 0, 0, 0, 0, 0, 0, 0, 0, 0, 0), 0)
  | m + 1, s => if s < want n s r air d1 d2 then (if want n s r air d1 d2 > 1048576 then ((0, 0, 0, 0, 0, 0, 0, 0, 0, 0, 0, 0, 0, 0, 0, 0), 71) else FT n k air d1 d2 r q b p m (want n s r air d1 d2))
    else if FS n k s (lOff n s r d1 d2) (lWin n s r d1 d2) air d1 d2 r (lPi n s r d1 d2) (lCap n s r d1 d2) (lDel n s r d1 d2 q b) q b p (lHor n s) = 0
      then ((n, k, s, lOff n s r d1 d2, lWin n s r d1 d2, air, d1, d2, r, lPi n s r d1 d2, lCap n s r d1 d2, lDel n s r d1 d2 q b, q, b, p, lHor n s), 0) else ((0, 0, 0, 0, 0, 0, 0, 0, 0, 0, 0, 0, 0, 0, 0, 0), 71)
/-- A plan and an error, side by side. -/
abbrev flat (x : PLN × Int) : Int × Int × Int × Int × Int × Int × Int × Int × Int × Int × Int × Int × Int × Int × Int × Int × Int :=
  (x.1.1, x.1.2.1, x.1.2.2.1, x.1.2.2.2.1, x.1.2.2.2.2.1, x.1.2.2.2.2.2.1, x.1.2.2.2.2.2.2.1, x.1.2.2.2.2.2.2.2.1, x.1.2.2.2.2.2.2.2.2.1, x.1.2.2.2.2.2.2.2.2.2.1, x.1.2.2.2.2.2.2.2.2.2.2.1, x.1.2.2.2.2.2.2.2.2.2.2.2.1, x.1.2.2.2.2.2.2.2.2.2.2.2.2.1, x.1.2.2.2.2.2.2.2.2.2.2.2.2.2.1, x.1.2.2.2.2.2.2.2.2.2.2.2.2.2.2.1, x.1.2.2.2.2.2.2.2.2.2.2.2.2.2.2.2, x.2)
/-- What the end of the loop answers. -/
def fin (q : plan_Fit.X0 ⊕ plan_Fit.Y0) : Option (Int × Int × Int × Int × Int × Int × Int × Int × Int × Int × Int × Int × Int × Int × Int × Int × Int) :=
  match q with
  | .inl x => (plan_Fails.f x.1 x.2.1 x.2.2.1 x.2.2.2.1 x.2.2.2.2.1 x.2.2.2.2.2.1 x.2.2.2.2.2.2.1 x.2.2.2.2.2.2.2.1 x.2.2.2.2.2.2.2.2.1 x.2.2.2.2.2.2.2.2.2.1 x.2.2.2.2.2.2.2.2.2.2.1 x.2.2.2.2.2.2.2.2.2.2.2.1 x.2.2.2.2.2.2.2.2.2.2.2.2.1 x.2.2.2.2.2.2.2.2.2.2.2.2.2.1 x.2.2.2.2.2.2.2.2.2.2.2.2.2.2.1 x.2.2.2.2.2.2.2.2.2.2.2.2.2.2.2).bind fun t => if t ≠ 0 then some (0, 0, 0, 0, 0, 0, 0, 0, 0, 0, 0, 0, 0, 0, 0, 0, 71) else some (flat (x, 0))
  | .inr _ => some (0, 0, 0, 0, 0, 0, 0, 0, 0, 0, 0, 0, 0, 0, 0, 0, 71)
theorem fit_loop (n k air d1 d2 r q b p : Int) (h1 : C1 n k) (h2 : C2 air d1 d2) (h3 : 4 ≤ r ∧ r ≤ 1048576) (h9 : C9 q b p) : ∀ (m : Nat) (s : Int), 1 ≤ s → s ≤ 1048576 → 1048576 - s < m →
    ∃ z, rounds plan_Fit.step0 (LST n k s air d1 d2 r q b p) = some z ∧ fin z = some (flat (FT n k air d1 d2 r q b p m s)) := by
  intro m
  induction m with
  | zero => intro s _ _ _; omega
  | succ m ih =>
    intro s g1 g2 g3
    have H : KN n k s air d1 d2 r := ⟨h1, h2, by omega, by omega, h3⟩
    have st := fit_step H h1 h2 h3 h9 g1
    simp only [FT]
    by_cases c : s < want n s r air d1 d2
    · rw [if_pos c] at st ⊢
      by_cases c2 : want n s r air d1 d2 > 1048576
      · rw [if_pos c2] at st ⊢
        exact ⟨.inr (), rounds_end st, rfl⟩
      · rw [if_neg c2] at st ⊢
        obtain ⟨z, hz, hf⟩ := ih (want n s r air d1 d2) (by omega) (by omega) (by omega)
        exact ⟨z, (rounds_next st).trans hz, hf⟩
    · rw [if_neg c] at st ⊢
      refine ⟨.inl (LST n k s air d1 d2 r q b p), rounds_end st, ?_⟩
      unfold fin
      dsimp only [LST]
      rw [fails_eq, Option.bind_some]
      by_cases c2 : FS n k s (lOff n s r d1 d2) (lWin n s r d1 d2) air d1 d2 r (lPi n s r d1 d2) (lCap n s r d1 d2) (lDel n s r d1 d2 q b) q b p (lHor n s) = 0
      · rw [if_pos c2, if_neg (NN c2)]
      · rw [if_neg c2, if_pos c2]
/-- The least plan for wishes. -/
def FI (n k air d1 d2 r q b p : Int) (m : Nat) : PLN × Int := if KN n k 1 air d1 d2 r ∧ C9 q b p then FT n k air d1 d2 r q b p m 1 else ((0, 0, 0, 0, 0, 0, 0, 0, 0, 0, 0, 0, 0, 0, 0, 0), 71)
theorem fit_eq (m : Nat) (hm : 1048575 < m) (a0 a1 a2 a3 a4 a5 a6 a7 a8 a9 a10 a11 a12 a13 a14 a15 : Int) : plan_Fit.f a0 a1 a2 a3 a4 a5 a6 a7 a8 a9 a10 a11 a12 a13 a14 a15 = some (flat (FI a0 a1 a5 a6 a7 a8 a12 a13 a14 m)) := by
  unfold plan_Fit.f FI
  rw [known_eq, Option.bind_some, queue_eq]
  by_cases H : KN a0 a1 1 a5 a6 a7 a8
  · by_cases h9 : C9 a12 a13 a14
    · rw [decide_eq_true H, decide_eq_true h9, if_neg (by decide), Option.bind_some, if_neg (by decide), if_pos (show _ ∧ _ from ⟨H, h9⟩)]
      have d := least_bd H
      have bb := rb (n := a0) (s := 1) (by omega) (by omega)
      rw [leastPi_eq (H := H), Option.bind_some]
      have z1 : 2 * (A a0 1 a8 a6 a7 + G a0 1 a8) + E a6 a7 = lPi a0 1 a8 a6 a7 := rfl
      rw [z1, leastWindow_eq (H := H) (hp := by omega), Option.bind_some]
      have z2 : lPi a0 1 a8 a6 a7 + E a6 a7 = lWin a0 1 a8 a6 a7 := rfl
      rw [z2, leastCap_eq (H := H), Option.bind_some]
      have z3 : A a0 1 a8 a6 a7 + 2 * G a0 1 a8 + 2 * E a6 a7 = lCap a0 1 a8 a6 a7 := rfl
      rw [z3, leastOff_eq (hp := by omega) (hw := by omega) (hc := by omega), Option.bind_some]
      have z4 : lWin a0 1 a8 a6 a7 + lCap a0 1 a8 a6 a7 + lPi a0 1 a8 a6 a7 = lOff a0 1 a8 a6 a7 := rfl
      rw [z4, leastDelta_eq (H := H) (hp := by omega) (h9 := h9), Option.bind_some, round_eq (H := H), Option.bind_some, wr (40 * (a0 * 1)) (by omega), guardEq_self]
      obtain ⟨z, hz, hf⟩ := fit_loop a0 a1 a5 a6 a7 a8 a12 a13 a14 H.1 H.2.1 ⟨H.2.2.2.2.1, H.2.2.2.2.2⟩ h9 m 1 (by omega) (by omega) (by omega)
      have hz' : rounds plan_Fit.step0 (a0, a1, 1, lOff a0 1 a8 a6 a7, lWin a0 1 a8 a6 a7, a5, a6, a7, a8, lPi a0 1 a8 a6 a7, lCap a0 1 a8 a6 a7, (Q a12 a13 + 3) * (a0 * 1) + 2 * lPi a0 1 a8 a6 a7, a12, a13, a14, 40 * (a0 * 1)) = some z := hz
      rw [hz', Option.bind_some]
      cases z with
      | inl x => exact hf
      | inr y => exact hf
    · rw [decide_eq_true H, decide_eq_false h9, if_neg (by decide), Option.bind_some, if_pos (by decide), if_neg (show ¬ (_ ∧ _) from fun x => h9 x.2)]
  · rw [decide_eq_false H, if_pos (by decide), if_neg (show ¬ (_ ∧ _) from fun x => H x.1)]
theorem with_eq (a0 a1 a2 a3 a4 a5 a6 a7 a8 a9 a10 a11 a12 a13 a14 a15 : Int) (s : Int) (H : KN a0 a1 s a5 a6 a7 a8) (h9 : C9 a12 a13 a14) : vespersref07_With.f a0 a1 a2 a3 a4 a5 a6 a7 a8 a9 a10 a11 a12 a13 a14 a15 s = some (a0, a1, s, lOff a0 s a8 a6 a7, lWin a0 s a8 a6 a7, a5, a6, a7, a8, lPi a0 s a8 a6 a7, lCap a0 s a8 a6 a7, lDel a0 s a8 a6 a7 a12 a13, a12, a13, a14, lHor a0 s) := by
  unfold vespersref07_With.f
  have d := least_bd H
  have c := gb (n := a0) (s := s) (r := a8) (by omega) (by omega) (by omega)
  have b := rb (n := a0) (s := s) (by omega) (by omega)
  have q := qb h9
  have mm := mb (x := Q a12 a13 + 3) (r := a0 * s) (by omega) b
  have e1 : E a6 a7 = a7 - a6 + 6 := rfl
  have e2 : A a0 s a8 a6 a7 = 2 * (E a6 a7 + G a0 s a8) := rfl
  have z1 : 2 * (A a0 s a8 a6 a7 + G a0 s a8) + E a6 a7 = lPi a0 s a8 a6 a7 := rfl
  have z2 : lPi a0 s a8 a6 a7 + E a6 a7 = lWin a0 s a8 a6 a7 := rfl
  have z3 : A a0 s a8 a6 a7 + 2 * G a0 s a8 + 2 * E a6 a7 = lCap a0 s a8 a6 a7 := rfl
  have z4 : lWin a0 s a8 a6 a7 + lCap a0 s a8 a6 a7 + lPi a0 s a8 a6 a7 = lOff a0 s a8 a6 a7 := rfl
  rw [rnumbers_eq (H := H), Option.bind_some, if_neg (show ¬ a13 = 0 by omega)]
  simp only []
  rw [wr (A a0 s a8 a6 a7 + G a0 s a8) (by omega), wr (2 * (A a0 s a8 a6 a7 + G a0 s a8)) (by omega), wr (2 * (A a0 s a8 a6 a7 + G a0 s a8) + E a6 a7) (by omega), z1, wr (lPi a0 s a8 a6 a7 + E a6 a7) (by omega), z2,
    wr (2 * G a0 s a8) (by omega), wr (2 * E a6 a7) (by omega), wr (A a0 s a8 a6 a7 + 2 * G a0 s a8) (by omega), wr (A a0 s a8 a6 a7 + 2 * G a0 s a8 + 2 * E a6 a7) (by omega), z3, wr (lWin a0 s a8 a6 a7 + lCap a0 s a8 a6 a7) (by omega), wr (lWin a0 s a8 a6 a7 + lCap a0 s a8 a6 a7 + lPi a0 s a8 a6 a7) (by omega), z4,
    wr (a0 * s) (by omega), wr (40 * (a0 * s)) (by omega), wr (2 * lPi a0 s a8 a6 a7) (by omega), tdiv_eq (by omega), wr (a12 / a13) (by omega), wr (a12 / a13 * a13) (by omega), wr (a12 / a13 + 1) (by omega)]
  by_cases h : a12 / a13 * a13 < a12
  · rw [if_pos h, q.2.2.1 h, wr (Q a12 a13 + 3) (by omega), wr ((Q a12 a13 + 3) * (a0 * s)) (by omega), wr ((Q a12 a13 + 3) * (a0 * s) + 2 * lPi a0 s a8 a6 a7) (by omega)]
    rfl
  · rw [if_neg h, q.2.2.2.1 h, wr (Q a12 a13 + 3) (by omega), wr ((Q a12 a13 + 3) * (a0 * s)) (by omega), wr ((Q a12 a13 + 3) * (a0 * s) + 2 * lPi a0 s a8 a6 a7) (by omega)]
    rfl
theorem want_mono {n s t r air d1 d2 : Int} (hn : 4 ≤ n) (hr : 4 ≤ r) (h : s ≤ t) : want n s r air d1 d2 ≤ want n t r air d1 d2 := by
  have a : n * s ≤ n * t := Int.mul_le_mul_of_nonneg_left h (by omega)
  have b : 2 * (n * s) / r ≤ 2 * (n * t) / r := Int.ediv_le_ediv (by omega) (by omega)
  have g : G n s r ≤ G n t r := by unfold G; omega
  have e1 : A n s r d1 d2 = 2 * (E d1 d2 + G n s r) := rfl
  have e2 : A n t r d1 d2 = 2 * (E d1 d2 + G n t r) := rfl
  unfold want lOff lWin lCap lPi
  omega
theorem ft_ok (n k air d1 d2 r q b p : Int) (h1 : C1 n k) (h2 : C2 air d1 d2) (h3 : 4 ≤ r ∧ r ≤ 1048576) : ∀ (m : Nat) (s : Int), 1 ≤ s → s ≤ 1048576 → 1048576 - s < m →
    FT n k air d1 d2 r q b p m s = ((0, 0, 0, 0, 0, 0, 0, 0, 0, 0, 0, 0, 0, 0, 0, 0), 71) ∨ ∃ t, s ≤ t ∧ t ≤ 1048576 ∧ (t = s ∨ ∃ u, s ≤ u ∧ u < t ∧ want n u r air d1 d2 = t) ∧
      FT n k air d1 d2 r q b p m s = ((n, k, t, lOff n t r d1 d2, lWin n t r d1 d2, air, d1, d2, r, lPi n t r d1 d2, lCap n t r d1 d2, lDel n t r d1 d2 q b, q, b, p, lHor n t), 0) ∧
      FS n k t (lOff n t r d1 d2) (lWin n t r d1 d2) air d1 d2 r (lPi n t r d1 d2) (lCap n t r d1 d2) (lDel n t r d1 d2 q b) q b p (lHor n t) = 0 := by
  intro m
  induction m with
  | zero => intro s _ _ _; omega
  | succ m ih =>
    intro s g1 g2 g3
    simp only [FT]
    by_cases c : s < want n s r air d1 d2
    · rw [if_pos c]
      by_cases c2 : want n s r air d1 d2 > 1048576
      · rw [if_pos c2]; exact .inl rfl
      · rw [if_neg c2]
        rcases ih (want n s r air d1 d2) (by omega) (by omega) (by omega) with e | ⟨t, x1, x2, x3, x4, x5⟩
        · exact .inl e
        · refine .inr ⟨t, by omega, x2, .inr ?_, x4, x5⟩
          rcases x3 with rfl | ⟨u, y1, y2, y3⟩
          · exact ⟨s, Int.le_refl _, c, rfl⟩
          · exact ⟨u, by omega, y2, y3⟩
    · rw [if_neg c]
      by_cases c2 : FS n k s (lOff n s r d1 d2) (lWin n s r d1 d2) air d1 d2 r (lPi n s r d1 d2) (lCap n s r d1 d2) (lDel n s r d1 d2 q b) q b p (lHor n s) = 0
      · rw [if_pos c2]; exact .inr ⟨s, Int.le_refl _, g2, .inl rfl, rfl, c2⟩
      · rw [if_neg c2]; exact .inl rfl
theorem fs_want {n k s air d1 d2 r q b p hz : Int} (h : FS n k s (lOff n s r d1 d2) (lWin n s r d1 d2) air d1 d2 r (lPi n s r d1 d2) (lCap n s r d1 d2) (lDel n s r d1 d2 q b) q b p hz = 0) : want n s r air d1 d2 ≤ s :=
  (fs_zero (h := h)).2.2.2.2.2.1
theorem fs_hor (a0 a1 a2 a3 a4 a5 a6 a7 a8 a9 a10 a11 a12 a13 a14 a15 : Int) (x : Int) (h : FS a0 a1 a2 a3 a4 a5 a6 a7 a8 a9 a10 a11 a12 a13 a14 a15 = 0) : FS a0 a1 a2 a3 a4 a5 a6 a7 a8 a9 a10 a11 a12 a13 a14 x = if 40 * (a0 * a2) ≤ x ∧ x ≤ 2147483648 then 0 else 11 := by
  obtain ⟨H, g4, g5, g6, g7, g8, g9, g10, g11⟩ := fs_zero (h := h)
  unfold FS
  rw [if_neg (NN H.1), if_neg (NN H.2.1), if_neg (NN H.2.2), if_neg (NN g4), if_neg (NN g5), if_neg (NN g6), if_neg (NN g7), if_neg (NN g8), if_neg (NN g9), if_neg (NN g10)]
  by_cases c : 40 * (a0 * a2) ≤ x ∧ x ≤ 2147483648
  · rw [if_neg (NN c), if_pos c]
  · rw [if_pos c, if_neg c]
theorem proved : vesperslaw07_PlanLeast.Pure := by
  intro a0 a1 a2 a3 a4 a5 a6 a7 a8 a9 a10 a11 a12 a13 a14 a15 x
  intros
  obtain ⟨m, hm⟩ : ∃ m : Nat, 1048575 < m + 3 := ⟨1048576, by decide⟩
  unfold vesperslaw07_PlanLeast.f
  rw [show vesperslaw07_alive.f = some true from rfl, fit_eq (m + 3) hm]
  simp only [Option.bind_some]
  unfold FI
  by_cases P : KN a0 a1 1 a5 a6 a7 a8 ∧ C9 a12 a13 a14
  · rw [if_pos P]
    rcases ft_ok a0 a1 a5 a6 a7 a8 a12 a13 a14 P.1.1 P.1.2.1 ⟨P.1.2.2.2.2.1, P.1.2.2.2.2.2⟩ (m + 3) 1 (by omega) (by omega) (by omega) with e | ⟨t, x1, x2, x3, x4, x5⟩
    · rw [e]; rfl
    · rw [x4]
      dsimp only [flat]
      rw [if_neg (by decide), check_eq, if_pos x5, Option.bind_some, if_neg (by decide)]
      rw [if_neg (NN rfl), if_neg (NN rfl), if_neg (NN rfl), if_neg (NN rfl), if_neg (NN rfl), if_neg (NN rfl), if_neg (NN rfl), if_neg (NN rfl), if_neg (NN rfl)]
      have Ht : KN a0 a1 t a5 a6 a7 a8 := ⟨P.1.1, P.1.2.1, x1, x2, P.1.2.2.2.2⟩
      have bt := least_bd Ht
      have rt := rb (n := a0) (s := t) (by omega) (by omega)
      have w8 := fs_want x5
      have w9 : 8 ≤ want a0 t a8 a5 a6 a7 := by unfold want; omega
      have hx : ∃ u, 1 ≤ u ∧ u < t ∧ want a0 u a8 a5 a6 a7 = t := by
        rcases x3 with h | h
        · omega
        · exact h
      obtain ⟨u, u1, u2, u3⟩ := hx
      have Hl : KN a0 a1 (t - 1) a5 a6 a7 a8 := ⟨P.1.1, P.1.2.1, by omega, by omega, P.1.2.2.2.2⟩
      have wm := want_mono (n := a0) (s := u) (t := t - 1) (r := a8) (air := a5) (d1 := a6) (d2 := a7) (by omega) (by omega) (by omega)
      rw [wr (t - 1) (by omega), with_eq (H := Hl) (h9 := P.2), Option.bind_some, if_pos (by omega), fails_eq, Option.bind_some]
      rw [if_neg (fun z => by
        have z' : want a0 (t - 1) a8 a5 a6 a7 ≤ t - 1 := fs_want z
        omega)]
      simp only [if_true]
      rw [fails_eq, pround_eq, if_pos Ht, Option.bind_some, Option.bind_some, fs_hor (x := x) (h := x5), wr (40 * (a0 * t)) (by omega)]
      by_cases c : x ≥ 40 * (a0 * t)
      · rw [if_pos c]
        by_cases c2 : x ≤ 2147483648
        · rw [if_pos ⟨c, c2⟩, decide_eq_true c2]; rfl
        · rw [if_neg (fun z => c2 z.2), decide_eq_false c2]; rfl
      · rw [if_neg c, if_neg (fun z => c z.1)]; rfl
  · rw [if_neg P]; rfl
end LPlanLeast
end Go.Proofs.Ytomombhiganjpaa.Pure
