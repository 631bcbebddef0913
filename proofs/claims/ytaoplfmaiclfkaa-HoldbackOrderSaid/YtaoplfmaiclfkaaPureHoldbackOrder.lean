/- Messages that are put in one order, and in the other one, into holds that take at readings of their own, come out in one order, each once, those that both had in time: the same, whoever took how often. -/
import Derived.Test.YtaoplfmaiclfkaaZ2
namespace Go.Proofs.Ytaoplfmaiclfkaa.Pure
open Go Go.RowKit Go.Proofs.Ytaoplfmaiclfkaa.S
open Go.Proofs.Ytaoplfmaiclfkaa.SX (guardEq_self rounds rounds_next rounds_end)
set_option linter.unusedVariables false
set_option linter.unusedSimpArgs false
namespace LHoldbackOrder
theorem wr (x : Int) (h : -9223372036854775808 ≤ x ∧ x ≤ 9223372036854775807) : wrap64 x = x := by unfold wrap64; omega
theorem tdiv_eq {x y : Int} (hx : 0 ≤ x) : Int.tdiv x y = x / y := Int.tdiv_eq_ediv_of_nonneg hx
abbrev C1 (n k : Int) : Prop := 4 ≤ n ∧ n ≤ 16 ∧ 0 ≤ k ∧ 2 * k + 2 ≤ n
abbrev C2 (air d1 d2 : Int) : Prop := 1 ≤ air ∧ air ≤ 1048576 ∧ 0 ≤ d1 ∧ d1 ≤ d2 ∧ d2 ≤ 1048576
abbrev C3 (s r : Int) : Prop := 1 ≤ s ∧ s ≤ 1048576 ∧ 4 ≤ r ∧ r ≤ 1048576
abbrev UP (least x : Int) : Prop := least ≤ x ∧ x ≤ 1048576
abbrev C9 (q b p : Int) : Prop := 1 ≤ q ∧ q ≤ 64 ∧ 1 ≤ b ∧ b ≤ 8 ∧ 1 ≤ p ∧ p ≤ 32
abbrev KN (n k s air d1 d2 r : Int) : Prop := C1 n k ∧ C2 air d1 d2 ∧ C3 s r
def G (n s r : Int) : Int := 2 * (2 * (n * s) / r + 4)
abbrev E (d1 d2 : Int) : Int := d2 - d1 + 6
abbrev A (n s r d1 d2 : Int) : Int := 2 * (E d1 d2 + G n s r)
theorem rb {n s : Int} (h : 4 ≤ n ∧ n ≤ 16) (h2 : 1 ≤ s ∧ s ≤ 1048576) : 4 ≤ n * s ∧ n * s ≤ 16777216 := by
  have a := Int.mul_le_mul h.1 h2.1 (by omega) (by omega)
  have b := Int.mul_le_mul h.2 h2.2 (by omega) (by omega)
  omega
theorem gb {n s r : Int} (h : 4 ≤ n ∧ n ≤ 16) (h2 : 1 ≤ s ∧ s ≤ 1048576) (h3 : 4 ≤ r) : 0 ≤ 2 * (n * s) / r ∧ 2 * (n * s) / r ≤ 33554432 ∧ 8 ≤ G n s r ∧ G n s r ≤ 67108872 := by
  have a := rb h h2
  have b : 0 ≤ 2 * (n * s) / r := Int.ediv_nonneg (by omega) (by omega)
  have c : 2 * (n * s) / r ≤ 2 * (n * s) := Int.ediv_le_self _ (by omega)
  unfold G
  omega
theorem in_eq (a b c : Int) : plan_in.f a b c = some (decide (b ≤ a ∧ a ≤ c)) := by
  unfold plan_in.f
  by_cases h : a ≥ b
  · rw [if_pos h]; congr 1; rw [decide_eq_decide]; omega
  · rw [if_neg h]; congr 1; symm; exact decide_eq_false (by omega)
section
variable (a0 a1 a2 a3 a4 a5 a6 a7 a8 a9 a10 a11 a12 a13 a14 a15 : Int)
theorem nodes_eq : plan_look_nodes.f a0 a1 a2 a3 a4 a5 a6 a7 a8 a9 a10 a11 a12 a13 a14 a15 = some (decide (C1 a0 a1)) := by
  unfold plan_look_nodes.f
  rw [in_eq, Option.bind_some]
  by_cases h : 4 ≤ a0 ∧ a0 ≤ 16
  · rw [decide_eq_true h, if_pos rfl, in_eq, Option.bind_some, wr (a0 - 2) (by omega), tdiv_eq (by omega), wr ((a0 - 2) / 2) (by omega)]
    congr 1; rw [decide_eq_decide]; omega
  · rw [decide_eq_false h, if_neg (by decide)]; congr 1; symm; exact decide_eq_false (by omega)
theorem air_eq : plan_look_air.f a0 a1 a2 a3 a4 a5 a6 a7 a8 a9 a10 a11 a12 a13 a14 a15 = some (decide (C2 a5 a6 a7)) := by
  unfold plan_look_air.f
  rw [in_eq, Option.bind_some]
  by_cases h : 1 ≤ a5 ∧ a5 ≤ 1048576
  · rw [decide_eq_true h, if_pos rfl, in_eq, Option.bind_some]
    by_cases h2 : a6 ≥ 0
    · rw [if_pos h2]; congr 1; rw [decide_eq_decide]; omega
    · rw [if_neg h2]; congr 1; symm; exact decide_eq_false (by omega)
  · rw [decide_eq_false h, if_neg (by decide)]; congr 1; symm; exact decide_eq_false (by omega)
theorem slot_eq : plan_look_slot.f a0 a1 a2 a3 a4 a5 a6 a7 a8 a9 a10 a11 a12 a13 a14 a15 = some (decide (C3 a2 a8)) := by
  unfold plan_look_slot.f
  rw [in_eq, Option.bind_some]
  by_cases h : 1 ≤ a2 ∧ a2 ≤ 1048576
  · rw [decide_eq_true h, if_pos rfl, in_eq, Option.bind_some]
    congr 1; rw [decide_eq_decide]; omega
  · rw [decide_eq_false h, if_neg (by decide)]; congr 1; symm; exact decide_eq_false (by omega)
theorem known_eq : plan_look_known.f a0 a1 a2 a3 a4 a5 a6 a7 a8 a9 a10 a11 a12 a13 a14 a15 = some (decide (KN a0 a1 a2 a5 a6 a7 a8)) := by
  unfold plan_look_known.f
  rw [nodes_eq, air_eq, slot_eq]
  simp only [Option.bind_some]
  by_cases h1 : C1 a0 a1
  · by_cases h2 : C2 a5 a6 a7
    · rw [decide_eq_true h1, decide_eq_true h2, if_pos rfl, if_pos rfl]; congr 1; rw [decide_eq_decide]; exact ⟨fun h => ⟨h1, h2, h⟩, fun h => h.2.2⟩
    · rw [decide_eq_true h1, decide_eq_false h2, if_pos rfl, if_neg (by decide)]; congr 1; symm; exact decide_eq_false (fun h => h2 h.2.1)
  · rw [decide_eq_false h1, if_neg (by decide)]; congr 1; symm; exact decide_eq_false (fun h => h1 h.1)
theorem queue_eq : plan_look_queue.f a0 a1 a2 a3 a4 a5 a6 a7 a8 a9 a10 a11 a12 a13 a14 a15 = some (decide (C9 a12 a13 a14)) := by
  unfold plan_look_queue.f
  rw [in_eq, in_eq, in_eq]
  simp only [Option.bind_some]
  by_cases h : 1 ≤ a12 ∧ a12 ≤ 64
  · by_cases h2 : 1 ≤ a13 ∧ a13 ≤ 8
    · rw [decide_eq_true h, decide_eq_true h2, if_pos rfl, if_pos rfl]; congr 1; rw [decide_eq_decide]; omega
    · rw [decide_eq_true h, decide_eq_false h2, if_pos rfl, if_neg (by decide)]; congr 1; symm; exact decide_eq_false (by omega)
  · rw [decide_eq_false h, if_neg (by decide)]; congr 1; symm; exact decide_eq_false (by omega)
variable (H : KN a0 a1 a2 a5 a6 a7 a8)
include H
theorem e_eq : plan_look_e.f a0 a1 a2 a3 a4 a5 a6 a7 a8 a9 a10 a11 a12 a13 a14 a15 = some (E a6 a7) := by
  unfold plan_look_e.f
  rw [wr (a7 - a6) (by omega), wr _ (by omega)]
theorem round_eq : plan_look_round.f a0 a1 a2 a3 a4 a5 a6 a7 a8 a9 a10 a11 a12 a13 a14 a15 = some (a0 * a2) := by
  unfold plan_look_round.f
  have b := rb (n := a0) (s := a2) (by omega) (by omega)
  rw [wr _ (by omega)]
theorem g_eq : plan_look_g.f a0 a1 a2 a3 a4 a5 a6 a7 a8 a9 a10 a11 a12 a13 a14 a15 = some (G a0 a2 a8) := by
  unfold plan_look_g.f
  have b := rb (n := a0) (s := a2) (by omega) (by omega)
  have c := gb (n := a0) (s := a2) (r := a8) (by omega) (by omega) (by omega)
  have e1 : E a6 a7 = a7 - a6 + 6 := rfl
  have e2 : A a0 a2 a8 a6 a7 = 2 * (E a6 a7 + G a0 a2 a8) := rfl
  rw [round_eq (H := H), Option.bind_some, if_neg (by omega), wr (2 * (a0 * a2)) (by omega), tdiv_eq (by omega), wr (2 * (a0 * a2) / a8) (by omega), wr (2 * (a0 * a2) / a8 + 4) (by omega), wr _ (by omega)]
  rfl
theorem a_eq : plan_look_a.f a0 a1 a2 a3 a4 a5 a6 a7 a8 a9 a10 a11 a12 a13 a14 a15 = some (A a0 a2 a8 a6 a7) := by
  unfold plan_look_a.f
  have c := gb (n := a0) (s := a2) (r := a8) (by omega) (by omega) (by omega)
  have e1 : E a6 a7 = a7 - a6 + 6 := rfl
  have e2 : A a0 a2 a8 a6 a7 = 2 * (E a6 a7 + G a0 a2 a8) := rfl
  rw [e_eq (H := H), g_eq (H := H), Option.bind_some, Option.bind_some, wr (E a6 a7 + G a0 a2 a8) (by omega), wr _ (by omega)]
theorem leastPi_eq : plan_look_leastPi.f a0 a1 a2 a3 a4 a5 a6 a7 a8 a9 a10 a11 a12 a13 a14 a15 = some (2 * (A a0 a2 a8 a6 a7 + G a0 a2 a8) + E a6 a7) := by
  unfold plan_look_leastPi.f
  have c := gb (n := a0) (s := a2) (r := a8) (by omega) (by omega) (by omega)
  have e1 : E a6 a7 = a7 - a6 + 6 := rfl
  have e2 : A a0 a2 a8 a6 a7 = 2 * (E a6 a7 + G a0 a2 a8) := rfl
  rw [a_eq (H := H), g_eq (H := H), e_eq (H := H), Option.bind_some, Option.bind_some, Option.bind_some, wr (A a0 a2 a8 a6 a7 + G a0 a2 a8) (by omega), wr (2 * (A a0 a2 a8 a6 a7 + G a0 a2 a8)) (by omega), wr _ (by omega)]
theorem leastCap_eq : plan_look_leastCap.f a0 a1 a2 a3 a4 a5 a6 a7 a8 a9 a10 a11 a12 a13 a14 a15 = some (A a0 a2 a8 a6 a7 + 2 * G a0 a2 a8 + 2 * E a6 a7) := by
  unfold plan_look_leastCap.f
  have c := gb (n := a0) (s := a2) (r := a8) (by omega) (by omega) (by omega)
  have e1 : E a6 a7 = a7 - a6 + 6 := rfl
  have e2 : A a0 a2 a8 a6 a7 = 2 * (E a6 a7 + G a0 a2 a8) := rfl
  rw [a_eq (H := H), g_eq (H := H), e_eq (H := H), Option.bind_some, Option.bind_some, Option.bind_some, wr (2 * G a0 a2 a8) (by omega), wr (2 * E a6 a7) (by omega), wr (A a0 a2 a8 a6 a7 + 2 * G a0 a2 a8) (by omega), wr _ (by omega)]
theorem leastWindow_eq (hp : 0 ≤ a9 ∧ a9 ≤ 8589934592) : plan_look_leastWindow.f a0 a1 a2 a3 a4 a5 a6 a7 a8 a9 a10 a11 a12 a13 a14 a15 = some (a9 + E a6 a7) := by
  unfold plan_look_leastWindow.f
  have e1 : E a6 a7 = a7 - a6 + 6 := rfl
  rw [e_eq (H := H), Option.bind_some, wr _ (by omega)]
omit H in
theorem leastOff_eq (hp : 0 ≤ a9 ∧ a9 ≤ 8589934592) (hw : 0 ≤ a4 ∧ a4 ≤ 8589934592) (hc : 0 ≤ a10 ∧ a10 ≤ 8589934592) : plan_look_leastOff.f a0 a1 a2 a3 a4 a5 a6 a7 a8 a9 a10 a11 a12 a13 a14 a15 = some (a4 + a10 + a9) := by
  unfold plan_look_leastOff.f
  rw [wr (a4 + a10) (by omega), wr _ (by omega)]
theorem leastSlot_eq (hp : 0 ≤ a9 ∧ a9 ≤ 8589934592) (hw : 0 ≤ a4 ∧ a4 ≤ 8589934592) (hc : 0 ≤ a10 ∧ a10 ≤ 8589934592) (hs : 0 ≤ a3 ∧ a3 ≤ 34359738368) : plan_look_leastSlot.f a0 a1 a2 a3 a4 a5 a6 a7 a8 a9 a10 a11 a12 a13 a14 a15 = some (a3 + a4 + 2 * (a7 + a5) + a10 + a9 + 8) := by
  unfold plan_look_leastSlot.f
  rw [wr (a3 + a4) (by omega), wr (a7 + a5) (by omega), wr (2 * (a7 + a5)) (by omega), wr (a3 + a4 + 2 * (a7 + a5)) (by omega), wr (a3 + a4 + 2 * (a7 + a5) + a10) (by omega), wr (a3 + a4 + 2 * (a7 + a5) + a10 + a9) (by omega), wr _ (by omega)]
end
def Q (q b : Int) : Int := (q + b - 1) / b
theorem qb {q b p : Int} (h : C9 q b p) : 1 ≤ Q q b ∧ Q q b ≤ 64 ∧ (q / b * b < q → q / b + 1 = Q q b) ∧ (¬ q / b * b < q → q / b = Q q b) ∧ 0 ≤ q / b ∧ q / b ≤ 64 ∧ 0 ≤ q / b * b ∧ q / b * b ≤ 64 := by
  unfold Q
  have : b = 1 ∨ b = 2 ∨ b = 3 ∨ b = 4 ∨ b = 5 ∨ b = 6 ∨ b = 7 ∨ b = 8 := by omega
  rcases this with rfl | rfl | rfl | rfl | rfl | rfl | rfl | rfl <;> omega
theorem mb {x r : Int} (hx : 0 ≤ x ∧ x ≤ 67) (hr : 4 ≤ r ∧ r ≤ 16777216) : 0 ≤ x * r ∧ x * r ≤ 1124073472 := by
  have a := Int.mul_nonneg hx.1 (show 0 ≤ r by omega)
  have b := Int.mul_le_mul hx.2 hr.2 (by omega) (by omega)
  omega
theorem leastDelta_eq (a0 a1 a2 a3 a4 a5 a6 a7 a8 a9 a10 a11 a12 a13 a14 a15 : Int) (H : KN a0 a1 a2 a5 a6 a7 a8) (hp : 0 ≤ a9 ∧ a9 ≤ 8589934592) (h9 : C9 a12 a13 a14) : plan_look_leastDelta.f a0 a1 a2 a3 a4 a5 a6 a7 a8 a9 a10 a11 a12 a13 a14 a15 = some ((Q a12 a13 + 3) * (a0 * a2) + 2 * a9) := by
  unfold plan_look_leastDelta.f
  have b := rb (n := a0) (s := a2) (by omega) (by omega)
  have q := qb h9
  have m := mb (x := Q a12 a13 + 3) (r := a0 * a2) (by omega) b
  have z : (a12 + a13 - 1) / a13 = Q a12 a13 := rfl
  rw [if_neg (by omega), round_eq (H := H), Option.bind_some, wr (a12 + a13) (by omega), wr (a12 + a13 - 1) (by omega), tdiv_eq (by omega), z, wr (Q a12 a13) (by omega), wr (Q a12 a13 + 3) (by omega), wr ((Q a12 a13 + 3) * (a0 * a2)) (by omega), wr (2 * a9) (by omega), wr _ (by omega)]
def FS (a0 a1 a2 a3 a4 a5 a6 a7 a8 a9 a10 a11 a12 a13 a14 a15 : Int) : Int :=
  if ¬ C1 a0 a1 then 1 else if ¬ C2 a5 a6 a7 then 2 else if ¬ C3 a2 a8 then 3
  else if ¬ UP (2 * (A a0 a2 a8 a6 a7 + G a0 a2 a8) + E a6 a7) a9 then 4 else if ¬ UP (a9 + E a6 a7) a4 then 5
  else if ¬ UP (A a0 a2 a8 a6 a7 + 2 * G a0 a2 a8 + 2 * E a6 a7) a10 then 6 else if ¬ UP (a4 + a10 + a9) a3 then 7
  else if ¬ a3 + a4 + 2 * (a7 + a5) + a10 + a9 + 8 ≤ a2 then 8 else if ¬ C9 a12 a13 a14 then 9
  else if ¬ ((Q a12 a13 + 3) * (a0 * a2) + 2 * a9 ≤ a11 ∧ a11 ≤ 64 * (a0 * a2)) then 10
  else if ¬ (40 * (a0 * a2) ≤ a15 ∧ a15 ≤ 2147483648) then 11 else 0
theorem ite_nn {p : Prop} [Decidable p] {x y : Int} (hx : 0 ≤ x) (hy : 0 ≤ y) : 0 ≤ if p then x else y := by split <;> assumption
theorem NN {p : Prop} (h : p) : ¬ ¬ p := fun x => x h
theorem NF : ¬ (false = true) := by decide
theorem fs_nonneg (a0 a1 a2 a3 a4 a5 a6 a7 a8 a9 a10 a11 a12 a13 a14 a15 : Int) : 0 ≤ FS a0 a1 a2 a3 a4 a5 a6 a7 a8 a9 a10 a11 a12 a13 a14 a15 := by
  unfold FS
  exact ite_nn (by decide) (ite_nn (by decide) (ite_nn (by decide) (ite_nn (by decide) (ite_nn (by decide) (ite_nn (by decide) (ite_nn (by decide) (ite_nn (by decide) (ite_nn (by decide) (ite_nn (by decide) (ite_nn (by decide) (by decide)))))))))))
theorem go_neg {α : Type} (x : Option α) (f : Bool → Option α) : ((some false).bind fun t => if (!t) = true then x else f t) = x := rfl
theorem go_pos {α : Type} (x : Option α) (f : Bool → Option α) : ((some true).bind fun t => if (!t) = true then x else f t) = f true := rfl
theorem fails_eq (a0 a1 a2 a3 a4 a5 a6 a7 a8 a9 a10 a11 a12 a13 a14 a15 : Int) : plan_Fails.f a0 a1 a2 a3 a4 a5 a6 a7 a8 a9 a10 a11 a12 a13 a14 a15 = some (FS a0 a1 a2 a3 a4 a5 a6 a7 a8 a9 a10 a11 a12 a13 a14 a15) := by
  unfold plan_Fails.f FS
  rw [nodes_eq]
  by_cases h1 : C1 a0 a1
  · rw [decide_eq_true h1, go_pos, if_neg (fun h => h h1), air_eq]
    by_cases h2 : C2 a5 a6 a7
    · rw [decide_eq_true h2, go_pos, if_neg (fun h => h h2), slot_eq]
      by_cases h3 : C3 a2 a8
      · have H : KN a0 a1 a2 a5 a6 a7 a8 := ⟨h1, h2, h3⟩
        have b := rb (n := a0) (s := a2) (by omega) (by omega)
        have c := gb (n := a0) (s := a2) (r := a8) (by omega) (by omega) (by omega)
        have e1 : E a6 a7 = a7 - a6 + 6 := rfl
        have e2 : A a0 a2 a8 a6 a7 = 2 * (E a6 a7 + G a0 a2 a8) := rfl
        rw [decide_eq_true h3, go_pos, if_neg (fun h => h h3)]
        rw [show plan_look_pi.f a0 a1 a2 a3 a4 a5 a6 a7 a8 a9 a10 a11 a12 a13 a14 a15 = some (decide (UP (2 * (A a0 a2 a8 a6 a7 + G a0 a2 a8) + E a6 a7) a9)) from by unfold plan_look_pi.f; rw [leastPi_eq (H := H), Option.bind_some, in_eq]; rfl]
        by_cases h4 : UP (2 * (A a0 a2 a8 a6 a7 + G a0 a2 a8) + E a6 a7) a9
        · rw [decide_eq_true h4, go_pos, if_neg (fun h => h h4)]
          rw [show plan_look_window.f a0 a1 a2 a3 a4 a5 a6 a7 a8 a9 a10 a11 a12 a13 a14 a15 = some (decide (UP (a9 + E a6 a7) a4)) from by unfold plan_look_window.f; rw [leastWindow_eq (H := H) (hp := by omega), Option.bind_some, in_eq]; rfl]
          by_cases h5 : UP (a9 + E a6 a7) a4
          · rw [decide_eq_true h5, go_pos, if_neg (fun h => h h5)]
            rw [show plan_look_limit.f a0 a1 a2 a3 a4 a5 a6 a7 a8 a9 a10 a11 a12 a13 a14 a15 = some (decide (UP (A a0 a2 a8 a6 a7 + 2 * G a0 a2 a8 + 2 * E a6 a7) a10)) from by unfold plan_look_limit.f; rw [leastCap_eq (H := H), Option.bind_some, in_eq]; rfl]
            by_cases h6 : UP (A a0 a2 a8 a6 a7 + 2 * G a0 a2 a8 + 2 * E a6 a7) a10
            · rw [decide_eq_true h6, go_pos, if_neg (fun h => h h6)]
              rw [show plan_look_sends.f a0 a1 a2 a3 a4 a5 a6 a7 a8 a9 a10 a11 a12 a13 a14 a15 = some (decide (UP (a4 + a10 + a9) a3)) from by unfold plan_look_sends.f; rw [leastOff_eq (hp := by omega) (hw := by omega) (hc := by omega), Option.bind_some, in_eq]; rfl]
              by_cases h7 : UP (a4 + a10 + a9) a3
              · rw [decide_eq_true h7, go_pos, if_neg (fun h => h h7)]
                rw [show plan_look_fits.f a0 a1 a2 a3 a4 a5 a6 a7 a8 a9 a10 a11 a12 a13 a14 a15 = some (decide (a3 + a4 + 2 * (a7 + a5) + a10 + a9 + 8 ≤ a2)) from by unfold plan_look_fits.f; rw [leastSlot_eq (H := H) (hp := by omega) (hw := by omega) (hc := by omega) (hs := by omega), Option.bind_some]]
                by_cases h8 : a3 + a4 + 2 * (a7 + a5) + a10 + a9 + 8 ≤ a2
                · rw [decide_eq_true h8, go_pos, if_neg (fun h => h h8), queue_eq]
                  by_cases h9 : C9 a12 a13 a14
                  · rw [decide_eq_true h9, go_pos, if_neg (fun h => h h9)]
                    rw [show plan_look_delta.f a0 a1 a2 a3 a4 a5 a6 a7 a8 a9 a10 a11 a12 a13 a14 a15 = some (decide ((Q a12 a13 + 3) * (a0 * a2) + 2 * a9 ≤ a11 ∧ a11 ≤ 64 * (a0 * a2))) from by unfold plan_look_delta.f; rw [leastDelta_eq (H := H) (hp := by omega) (h9 := h9), Option.bind_some, round_eq (H := H), Option.bind_some, wr (64 * (a0 * a2)) (by omega), in_eq]; rfl]
                    by_cases h10 : (Q a12 a13 + 3) * (a0 * a2) + 2 * a9 ≤ a11 ∧ a11 ≤ 64 * (a0 * a2)
                    · rw [decide_eq_true h10, go_pos, if_neg (fun h => h h10)]
                      rw [show plan_look_horizon.f a0 a1 a2 a3 a4 a5 a6 a7 a8 a9 a10 a11 a12 a13 a14 a15 = some (decide (40 * (a0 * a2) ≤ a15 ∧ a15 ≤ 2147483648)) from by unfold plan_look_horizon.f; rw [round_eq (H := H), Option.bind_some, wr (40 * (a0 * a2)) (by omega), in_eq]; rfl]
                      by_cases h11 : 40 * (a0 * a2) ≤ a15 ∧ a15 ≤ 2147483648
                      · rw [decide_eq_true h11, go_pos, if_neg (fun h => h h11)]
                      · rw [decide_eq_false h11, go_neg, if_pos h11]
                    · rw [decide_eq_false h10, go_neg, if_pos h10]
                  · rw [decide_eq_false h9, go_neg, if_pos h9]
                · rw [decide_eq_false h8, go_neg, if_pos h8]
              · rw [decide_eq_false h7, go_neg, if_pos h7]
            · rw [decide_eq_false h6, go_neg, if_pos h6]
          · rw [decide_eq_false h5, go_neg, if_pos h5]
        · rw [decide_eq_false h4, go_neg, if_pos h4]
      · rw [decide_eq_false h3, go_neg, if_pos h3]
    · rw [decide_eq_false h2, go_neg, if_pos h2]
  · rw [decide_eq_false h1, go_neg, if_pos h1]
theorem fs_zero (a0 a1 a2 a3 a4 a5 a6 a7 a8 a9 a10 a11 a12 a13 a14 a15 : Int) (h : FS a0 a1 a2 a3 a4 a5 a6 a7 a8 a9 a10 a11 a12 a13 a14 a15 = 0) : KN a0 a1 a2 a5 a6 a7 a8 ∧ UP (2 * (A a0 a2 a8 a6 a7 + G a0 a2 a8) + E a6 a7) a9 ∧ UP (a9 + E a6 a7) a4 ∧ UP (A a0 a2 a8 a6 a7 + 2 * G a0 a2 a8 + 2 * E a6 a7) a10 ∧ UP (a4 + a10 + a9) a3
    ∧ a3 + a4 + 2 * (a7 + a5) + a10 + a9 + 8 ≤ a2 ∧ C9 a12 a13 a14 ∧ ((Q a12 a13 + 3) * (a0 * a2) + 2 * a9 ≤ a11 ∧ a11 ≤ 64 * (a0 * a2)) ∧ (40 * (a0 * a2) ≤ a15 ∧ a15 ≤ 2147483648) := by
  unfold FS at h
  by_cases h1 : C1 a0 a1
  · rw [if_neg (fun x => x h1)] at h
    by_cases h2 : C2 a5 a6 a7
    · rw [if_neg (fun x => x h2)] at h
      by_cases h3 : C3 a2 a8
      · rw [if_neg (fun x => x h3)] at h
        by_cases h4 : UP (2 * (A a0 a2 a8 a6 a7 + G a0 a2 a8) + E a6 a7) a9
        · rw [if_neg (fun x => x h4)] at h
          by_cases h5 : UP (a9 + E a6 a7) a4
          · rw [if_neg (fun x => x h5)] at h
            by_cases h6 : UP (A a0 a2 a8 a6 a7 + 2 * G a0 a2 a8 + 2 * E a6 a7) a10
            · rw [if_neg (fun x => x h6)] at h
              by_cases h7 : UP (a4 + a10 + a9) a3
              · rw [if_neg (fun x => x h7)] at h
                by_cases h8 : a3 + a4 + 2 * (a7 + a5) + a10 + a9 + 8 ≤ a2
                · rw [if_neg (fun x => x h8)] at h
                  by_cases h9 : C9 a12 a13 a14
                  · rw [if_neg (fun x => x h9)] at h
                    by_cases h10 : (Q a12 a13 + 3) * (a0 * a2) + 2 * a9 ≤ a11 ∧ a11 ≤ 64 * (a0 * a2)
                    · rw [if_neg (fun x => x h10)] at h
                      by_cases h11 : 40 * (a0 * a2) ≤ a15 ∧ a15 ≤ 2147483648
                      · exact ⟨⟨h1, h2, h3⟩, h4, h5, h6, h7, h8, h9, h10, h11⟩
                      · rw [if_pos h11] at h; exact absurd h (by decide)
                    · rw [if_pos h10] at h; exact absurd h (by decide)
                  · rw [if_pos h9] at h; exact absurd h (by decide)
                · rw [if_pos h8] at h; exact absurd h (by decide)
              · rw [if_pos h7] at h; exact absurd h (by decide)
            · rw [if_pos h6] at h; exact absurd h (by decide)
          · rw [if_pos h5] at h; exact absurd h (by decide)
        · rw [if_pos h4] at h; exact absurd h (by decide)
      · rw [if_pos h3] at h; exact absurd h (by decide)
    · rw [if_pos h2] at h; exact absurd h (by decide)
  · rw [if_pos h1] at h; exact absurd h (by decide)
theorem pround_eq (a0 a1 a2 a3 a4 a5 a6 a7 a8 a9 a10 a11 a12 a13 a14 a15 : Int) : plan_Round.f a0 a1 a2 a3 a4 a5 a6 a7 a8 a9 a10 a11 a12 a13 a14 a15 = some (if KN a0 a1 a2 a5 a6 a7 a8 then a0 * a2 else 0) := by
  unfold plan_Round.f
  rw [known_eq, Option.bind_some]
  by_cases H : KN a0 a1 a2 a5 a6 a7 a8
  · rw [decide_eq_true H, if_pos rfl, if_pos H, round_eq (H := H)]; rfl
  · rw [decide_eq_false H, if_neg (by decide), if_neg H]
theorem check_eq (a0 a1 a2 a3 a4 a5 a6 a7 a8 a9 a10 a11 a12 a13 a14 a15 : Int) : plan_Check.f a0 a1 a2 a3 a4 a5 a6 a7 a8 a9 a10 a11 a12 a13 a14 a15 = some (if FS a0 a1 a2 a3 a4 a5 a6 a7 a8 a9 a10 a11 a12 a13 a14 a15 = 0 then 0 else 70) := by
  unfold plan_Check.f
  rw [fails_eq, Option.bind_some]
  by_cases h : FS a0 a1 a2 a3 a4 a5 a6 a7 a8 a9 a10 a11 a12 a13 a14 a15 = 0
  · rw [if_neg (fun x => x h), if_pos h]
  · rw [if_pos h, if_neg h]
abbrev Ms : Type := Int × Int × Int × List Int
def dz : Ms := (0, 0, 0, [])
def lt (a b : Ms) : Prop := a.1 < b.1 ∨ (a.1 = b.1 ∧ (a.2.1 < b.2.1 ∨ (a.2.1 = b.2.1 ∧ a.2.2.1 < b.2.2.1)))
instance (a b : Ms) : Decidable (lt a b) := by unfold lt; infer_instance
theorem lt_asymm {a b : Ms} (h : lt a b) : ¬ lt b a := by unfold lt at *; omega
theorem lt_irrefl (a : Ms) : ¬ lt a a := by unfold lt; omega
theorem nlt_trans {a b c : Ms} (h : ¬ lt b a) (k : ¬ lt c b) : ¬ lt c a := by unfold lt at *; omega
theorem lt_nlt {a b c : Ms} (h : lt a b) (k : ¬ lt c b) : ¬ lt c a := nlt_trans (lt_asymm h) k
def cmpE (a b : Ms) : Option Int := holdback_Compare.f (a.1, a.2.1, a.2.2.1, a.2.2.2, b.1, b.2.1, b.2.2.1, b.2.2.2)
theorem cmpI (a b : Int) : cmp_Compare_int.f a b = some (if a < b then -1 else if b < a then 1 else 0) := by
  unfold cmp_Compare_int.f
  rw [if_neg (by simp), if_neg (by simp)]
  split
  · rfl
  · split
    · rfl
    · rfl
theorem cmpL (a b : Int) : cmp_Compare_int64.f a b = some (if a < b then -1 else if b < a then 1 else 0) := by
  unfold cmp_Compare_int64.f
  rw [if_neg (by simp), if_neg (by simp)]
  split
  · rfl
  · split
    · rfl
    · rfl
def sk (a b : Ms) : Prop := a.1 = b.1 ∧ a.2.1 = b.2.1 ∧ a.2.2.1 = b.2.2.1
instance (a b : Ms) : Decidable (sk a b) := by unfold sk; infer_instance
theorem cmpE_eq (a b : Ms) : cmpE a b = some (if lt a b then -1 else if lt b a then 1 else 0) := by
  obtain ⟨a0, a1, a2, a3⟩ := a
  obtain ⟨b0, b1, b2, b3⟩ := b
  unfold cmpE holdback_Compare.f
  simp only [cmpI, cmpL, Option.bind_some, lt]
  have tri : ∀ x y : Int, x < y ∧ ¬ y < x ∧ ¬ x = y ∧ ¬ y = x ∨ ¬ x < y ∧ ¬ y < x ∧ x = y ∨ ¬ x < y ∧ y < x ∧ ¬ x = y ∧ ¬ y = x := fun x y => by omega
  rcases tri a0 b0 with ⟨h1, h2, h3, h4⟩ | ⟨h1, h2, rfl⟩ | ⟨h1, h2, h3, h4⟩
  · simp [h1]
  · rcases tri a1 b1 with ⟨h1, h2, h3, h4⟩ | ⟨h1, h2, rfl⟩ | ⟨h1, h2, h3, h4⟩
    · simp [h1]
    · rcases tri a2 b2 with ⟨h1, h2, h3, h4⟩ | ⟨h1, h2, rfl⟩ | ⟨h1, h2, h3, h4⟩
      · simp [h1]
      · simp
      · simp [h1, h2, h3, h4]
    · simp [h1, h2, h3, h4]
  · simp [h1, h2, h3, h4]
theorem sk_iff (a b : Ms) : sk a b ↔ ¬ lt a b ∧ ¬ lt b a := by
  unfold sk lt
  omega
theorem cmp0 (a b : Ms) : (if lt a b then (-1 : Int) else if lt b a then 1 else 0) = 0 ↔ sk a b := by
  rw [sk_iff]
  by_cases h : lt a b
  · rw [if_pos h]
    exact ⟨fun e => by omega, fun e => absurd h e.1⟩
  · rw [if_neg h]
    by_cases h2 : lt b a
    · rw [if_pos h2]
      exact ⟨fun e => by omega, fun e => absurd h2 e.2⟩
    · rw [if_neg h2]
      exact ⟨fun _ => ⟨h, h2⟩, fun _ => rfl⟩
def g (l : List Ms) (i : Nat) : Ms := l.getD i dz
theorem gl_eq {l : List Ms} {i : Nat} (h : i < l.length) : g l i = l[i] := by
  unfold g
  rw [List.getD_eq_getElem?_getD, List.getElem?_eq_getElem h]
  rfl
theorem g_mem {l : List Ms} {i : Nat} (h : i < l.length) : g l i ∈ l := by
  rw [gl_eq h]
  exact List.getElem_mem h
def swap (l : List Ms) (i j : Nat) : List Ms := (l.set i (g l j)).set j (g l i)
theorem swap_len (l : List Ms) (i j : Nat) : (swap l i j).length = l.length := by simp [swap]
theorem g_set (l : List Ms) (i j : Nat) (x : Ms) (h : i < l.length) : g (l.set i x) j = if j = i then x else g l j := by
  unfold g
  rw [List.getD_eq_getElem?_getD, List.getElem?_set, List.getD_eq_getElem?_getD]
  by_cases e : j = i
  · subst e
    rw [if_pos rfl, if_pos h, if_pos rfl]
    rfl
  · rw [if_neg (fun q => e q.symm), if_neg e]
theorem g_swap (l : List Ms) (i j k : Nat) (hi : i < l.length) (hj : j < l.length) : g (swap l i j) k = if k = j then g l i else if k = i then g l j else g l k := by
  unfold swap
  rw [g_set _ _ _ _ (by simpa using hj), g_set _ _ _ _ hi]
theorem set_perm : ∀ (l : List Ms) (i : Nat) (x : Ms) (h : i < l.length), (x :: l).Perm (l[i] :: l.set i x)
  | y :: l, 0, x, h => List.Perm.swap y x l
  | y :: l, i + 1, x, h => by
    have h' : i < l.length := by simpa using h
    have := set_perm l i x h'
    show (x :: y :: l).Perm (l[i] :: y :: l.set i x)
    exact ((List.Perm.swap y x l).trans (this.cons y)).trans (List.Perm.swap _ _ _)
theorem swap_perm (l : List Ms) (i j : Nat) (hi : i < l.length) (hj : j < l.length) : (swap l i j).Perm l := by
  have h1 := set_perm l i (g l j) hi
  have hj' : j < (l.set i (g l j)).length := by simpa using hj
  have h2 := set_perm (l.set i (g l j)) j (g l i) hj'
  have e : (l.set i (g l j))[j] = g l j := by
    rw [List.getElem_set]
    split
    · rfl
    · exact (gl_eq hj).symm
  rw [e, gl_eq hi] at h2
  have h3 := h1.trans h2
  have h4 := (List.Perm.cons_inv h3).symm
  unfold swap
  rw [gl_eq hi]
  exact h4
theorem swap_self (l : List Ms) (i : Nat) (hi : i < l.length) : swap l i i = l := by
  unfold swap
  rw [gl_eq hi]
  simp
def upL : Nat → List Ms → Nat → List Ms
  | 0, l, _ => l
  | f + 1, l, j => if j = 0 then l else if lt (g l j) (g l ((j - 1) / 2)) then upL f (swap l ((j - 1) / 2) j) ((j - 1) / 2) else l
def kid (l : List Ms) (n i : Nat) : Nat := if 2 * i + 2 < n ∧ lt (g l (2 * i + 2)) (g l (2 * i + 1)) then 2 * i + 2 else 2 * i + 1
theorem kid_lt {l : List Ms} {n i : Nat} (h : ¬ 2 * i + 1 ≥ n) : kid l n i < n ∧ (kid l n i - 1) / 2 = i ∧ i < kid l n i ∧ ∀ k, 0 < k → k < n → (k - 1) / 2 = i → ¬ lt (g l k) (g l (kid l n i)) := by
  unfold kid
  split
  · rename_i h
    refine ⟨h.1, by omega, by omega, fun k hk hl he => ?_⟩
    have : k = 2 * i + 1 ∨ k = 2 * i + 2 := by omega
    rcases this with rfl | rfl
    · exact lt_asymm h.2
    · exact lt_irrefl _
  · rename_i h
    refine ⟨by omega, by omega, by omega, fun k hk hl he => ?_⟩
    have : k = 2 * i + 1 ∨ k = 2 * i + 2 := by omega
    rcases this with rfl | rfl
    · exact lt_irrefl _
    · exact fun q => h ⟨hl, q⟩
def downL : Nat → List Ms → Nat → Nat → List Ms
  | 0, l, _, _ => l
  | f + 1, l, n, i => if 2 * i + 1 ≥ n then l else if lt (g l (kid l n i)) (g l i) then downL f (swap l i (kid l n i)) n (kid l n i) else l
theorem upL_perm : ∀ (f : Nat) (l : List Ms) (j : Nat), j < l.length → (upL f l j).Perm l
  | 0, l, j, h => List.Perm.refl l
  | f + 1, l, j, h => by
    unfold upL
    split
    · exact List.Perm.refl l
    · split
      · exact (upL_perm f _ _ (by rw [swap_len]; omega)).trans (swap_perm _ _ _ (by omega) h)
      · exact List.Perm.refl l
theorem downL_perm : ∀ (f : Nat) (l : List Ms) (n i : Nat), n ≤ l.length → i < l.length → (downL f l n i).Perm l
  | 0, l, n, i, h, hi => List.Perm.refl l
  | f + 1, l, n, i, h, hi => by
    unfold downL
    split
    · exact List.Perm.refl l
    · rename_i h0
      split
      · have := (kid_lt (l := l) h0).1
        exact (downL_perm f _ _ _ (by rw [swap_len]; omega) (by rw [swap_len]; omega)).trans (swap_perm _ _ _ hi (by omega))
      · exact List.Perm.refl l
theorem downL_rest : ∀ (f : Nat) (l : List Ms) (n i k : Nat), n ≤ l.length → i < l.length → n ≤ k → i < k → g (downL f l n i) k = g l k
  | 0, l, n, i, k, h, hi, hk, hik => rfl
  | f + 1, l, n, i, k, h, hi, hk, hik => by
    unfold downL
    split
    · rfl
    · rename_i h0
      split
      · have hj := (kid_lt (l := l) h0).1
        rw [downL_rest f _ _ _ k (by rw [swap_len]; omega) (by rw [swap_len]; omega) hk (by omega), g_swap _ _ _ _ hi (by omega), if_neg (by omega), if_neg (by omega)]
      · rfl
def HeapF (l : List Ms) (n m : Nat) : Prop := ∀ k, 0 < k → k < n → m ≤ (k - 1) / 2 → ¬ lt (g l k) (g l ((k - 1) / 2))
abbrev Heap (l : List Ms) : Prop := HeapF l l.length 0
theorem upL_heap : ∀ (f : Nat) (l : List Ms) (j : Nat), j < f → j < l.length → (∀ k, 0 < k → k < l.length → k ≠ j → ¬ lt (g l k) (g l ((k - 1) / 2))) → (∀ k, 0 < k → k < l.length → (k - 1) / 2 = j → 0 < j → ¬ lt (g l k) (g l ((j - 1) / 2))) → Heap (upL f l j)
  | 0, l, j, hf, hj, h1, h2 => by omega
  | f + 1, l, j, hf, hj, h1, h2 => by
    unfold upL
    split
    · rename_i e
      intro k hk hl _
      exact h1 k hk hl (by omega)
    · rename_i e
      split
      · rename_i hlt
        have hp : (j - 1) / 2 < l.length := by omega
        refine upL_heap f _ _ (by omega) (by rw [swap_len]; exact hp) (fun k hk hl hn => ?_) (fun k hk hl he hpos => ?_)
        · rw [swap_len] at hl
          rw [g_swap _ _ _ _ hp hj, g_swap _ _ _ _ hp hj]
          by_cases ek : k = j
          · subst ek
            rw [if_pos rfl, if_neg (by omega), if_pos rfl]
            exact lt_asymm hlt
          · rw [if_neg ek, if_neg (by omega)]
            by_cases e1 : (k - 1) / 2 = j
            · rw [if_pos e1]
              exact h2 k hk hl e1 (by omega)
            · rw [if_neg e1]
              by_cases e2 : (k - 1) / 2 = (j - 1) / 2
              · rw [if_pos e2]
                have := h1 k hk hl ek
                rw [e2] at this
                exact lt_nlt hlt this
              · rw [if_neg e2]
                exact h1 k hk hl ek
        · rw [swap_len] at hl
          rw [g_swap _ _ _ _ hp hj, g_swap _ _ _ _ hp hj, if_neg (show ¬ ((j - 1) / 2 - 1) / 2 = j by omega), if_neg (show ¬ ((j - 1) / 2 - 1) / 2 = (j - 1) / 2 by omega)]
          have ha := h1 ((j - 1) / 2) (by omega) hp (by omega)
          by_cases ek : k = j
          · rw [if_pos ek]
            exact ha
          · rw [if_neg ek, if_neg (by omega)]
            have := h1 k hk hl ek
            rw [he] at this
            exact nlt_trans ha this
      · rename_i hlt
        intro k hk hl _
        by_cases ek : k = j
        · subst ek
          exact hlt
        · exact h1 k hk hl ek
theorem downL_heap : ∀ (f : Nat) (l : List Ms) (n i m : Nat), n ≤ i + f → n ≤ l.length → i < l.length → m ≤ i → (∀ k, 0 < k → k < n → m ≤ (k - 1) / 2 → (k - 1) / 2 ≠ i → ¬ lt (g l k) (g l ((k - 1) / 2))) → (∀ k, 0 < k → k < n → (k - 1) / 2 = i → 0 < i → m ≤ (i - 1) / 2 → ¬ lt (g l k) (g l ((i - 1) / 2))) → HeapF (downL f l n i) n m
  | 0, l, n, i, m, hf, hn, hi, hm, h1, h2 => fun k hk hl hmk => by
    show ¬ lt (g l k) _
    exact h1 k hk hl hmk (by omega)
  | f + 1, l, n, i, m, hf, hn, hi, hm, h1, h2 => by
    unfold downL
    split
    · intro k hk hl hmk
      exact h1 k hk hl hmk (by omega)
    · rename_i hlt
      have hjn := kid_lt (l := l) hlt
      generalize kid l n i = j at hjn ⊢
      obtain ⟨hj1, hj2, hj3, hj4⟩ := hjn
      split
      · rename_i hs
        have hjl : j < l.length := by omega
        refine downL_heap f _ n j m (by omega) (by rw [swap_len]; exact hn) (by rw [swap_len]; exact hjl) (by omega) (fun k hk hl hmk hne => ?_) (fun k hk hl he hpos hmj => ?_)
        · rw [g_swap _ _ _ _ hi hjl, g_swap _ _ _ _ hi hjl, if_neg hne]
          by_cases ek : k = j
          · subst ek
            rw [if_pos rfl, if_pos hj2]
            exact lt_asymm hs
          · rw [if_neg ek]
            by_cases e1 : k = i
            · subst e1
              rw [if_pos rfl, if_neg (by omega)]
              exact h2 j (by omega) hj1 hj2 hk hmk
            · rw [if_neg e1]
              by_cases e2 : (k - 1) / 2 = i
              · rw [if_pos e2]
                exact hj4 k hk hl e2
              · rw [if_neg e2]
                exact h1 k hk hl hmk e2
        · rw [g_swap _ _ _ _ hi hjl, g_swap _ _ _ _ hi hjl, if_neg (by omega), if_neg (by omega), hj2, if_neg (by omega), if_pos rfl]
          have := h1 k hk hl (by omega) (by omega)
          rw [he] at this
          exact this
      · rename_i hs
        intro k hk hl hmk
        by_cases e : (k - 1) / 2 = i
        · rw [e]
          exact nlt_trans hs (hj4 k hk hl e)
        · exact h1 k hk hl hmk e
theorem heap_min {l : List Ms} {n : Nat} (h : HeapF l n 0) : ∀ k, k < n → ¬ lt (g l k) (g l 0) := by
  intro k
  induction k using Nat.strongRecOn with
  | ind k ih =>
    intro hk
    by_cases e : k = 0
    · subst e
      exact lt_irrefl _
    · exact nlt_trans (ih ((k - 1) / 2) (by omega) (by omega)) (h k (by omega) hk (Nat.zero_le _))
theorem heap_first {l : List Ms} (h : Heap l) : ∀ e ∈ l, ¬ lt e (g l 0) := by
  intro e he
  obtain ⟨k, hk, rfl⟩ := List.mem_iff_getElem.1 he
  rw [← gl_eq hk]
  exact heap_min h k hk
def putL (l : List Ms) (x : Ms) : List Ms := upL (l.length + 1) (l ++ [x]) l.length
theorem putL_perm (l : List Ms) (x : Ms) : (putL l x).Perm (x :: l) := (upL_perm _ _ _ (by simp)).trans (List.perm_append_singleton ..)
theorem putL_len (l : List Ms) (x : Ms) : (putL l x).length = l.length + 1 := by rw [(putL_perm l x).length_eq]; rfl
theorem g_app {l : List Ms} {x : Ms} {k : Nat} (h : k < l.length) : g (l ++ [x]) k = g l k := by
  unfold g
  rw [List.getD_eq_getElem?_getD, List.getD_eq_getElem?_getD, List.getElem?_append_left h]
theorem putL_heap {l : List Ms} (h : Heap l) (x : Ms) : Heap (putL l x) := by
  refine upL_heap _ _ _ (by omega) (by simp) (fun k hk hl hn => ?_) (fun k hk hl he hpos => ?_)
  · simp at hl
    rw [g_app (by omega), g_app (by omega)]
    exact h k hk (by omega) (Nat.zero_le _)
  · simp at hl
    omega
def takeL (l : List Ms) : List Ms := (downL l.length (swap l 0 (l.length - 1)) (l.length - 1) 0).take (l.length - 1)
theorem take_last {l : List Ms} {n : Nat} (h : l.length = n + 1) : l.Perm (g l n :: l.take n) := by
  have : l = l.take n ++ [g l n] := by
    rw [gl_eq (by omega)]
    conv => lhs; rw [← List.take_append_drop n l]
    congr 1
    rw [List.drop_eq_getElem_cons (by omega), List.drop_of_length_le (by omega)]
  conv => lhs; rw [this]
  exact List.perm_append_singleton ..
theorem g_take {l : List Ms} {n k : Nat} (h : k < n) (hl : n ≤ l.length) : g (l.take n) k = g l k := by
  unfold g
  rw [List.getD_eq_getElem?_getD, List.getD_eq_getElem?_getD, List.getElem?_take_of_lt h]
theorem takeL_perm {l : List Ms} (h : 0 < l.length) : l.Perm (g l 0 :: takeL l) := by
  have h1 : (downL l.length (swap l 0 (l.length - 1)) (l.length - 1) 0).Perm l :=
    (downL_perm _ _ _ _ (by rw [swap_len]; omega) (by rw [swap_len]; omega)).trans (swap_perm _ _ _ h (by omega))
  have h2 := take_last (l := downL l.length (swap l 0 (l.length - 1)) (l.length - 1) 0) (n := l.length - 1) (by rw [h1.length_eq]; omega)
  have e : g (downL l.length (swap l 0 (l.length - 1)) (l.length - 1) 0) (l.length - 1) = g l 0 := by
    by_cases e0 : l.length = 1
    · rw [e0]
      show g (downL 1 (swap l 0 0) 0 0) 0 = g l 0
      unfold downL
      rw [if_pos (by omega), swap_self _ _ h]
    · rw [downL_rest _ _ _ _ _ (by rw [swap_len]; omega) (by rw [swap_len]; omega) (Nat.le_refl _) (by omega), g_swap _ _ _ _ h (by omega), if_pos rfl]
  rw [e] at h2
  exact h1.symm.trans h2
theorem takeL_len {l : List Ms} (h : 0 < l.length) : (takeL l).length = l.length - 1 := by
  have := (takeL_perm h).length_eq
  simp at this
  omega
theorem takeL_heap {l : List Ms} (h : Heap l) (hl : 0 < l.length) : Heap (takeL l) := by
  have h1 : HeapF (downL l.length (swap l 0 (l.length - 1)) (l.length - 1) 0) (l.length - 1) 0 := by
    refine downL_heap _ _ _ _ _ (by omega) (by rw [swap_len]; omega) (by rw [swap_len]; omega) (Nat.le_refl _) (fun k hk hkl _ hne => ?_) (fun k hk hkl he hpos => by omega)
    rw [g_swap _ _ _ _ hl (by omega), g_swap _ _ _ _ hl (by omega), if_neg (by omega), if_neg (by omega), if_neg (by omega), if_neg (by omega)]
    exact h k hk (by omega) (Nat.zero_le _)
  intro k hk hkl _
  rw [takeL_len hl] at hkl
  have hlen : l.length - 1 ≤ (downL l.length (swap l 0 (l.length - 1)) (l.length - 1) 0).length := by
    rw [(downL_perm _ _ _ _ (by rw [swap_len]; omega) (by rw [swap_len]; omega)).length_eq, swap_len]
    omega
  unfold takeL
  rw [g_take hkl hlen, g_take (by omega) hlen]
  exact h1 k hk hkl (Nat.zero_le _)
theorem up_def (j : Int) (a0 a1 a2 a3 a4 a5 a6 a7 a8 a9 a10 a11 a12 a13 a14 a15 : Int) (l : List Ms) : container_heap_up.step0 (j, a0, a1, a2, a3, a4, a5, a6, a7, a8, a9, a10, a11, a12, a13, a14, a15, l) =
    (if wrap64 ((wrap64 (j - 1)).tdiv 2) = j then some (Sum.inr (Sum.inl (j, a0, a1, a2, a3, a4, a5, a6, a7, a8, a9, a10, a11, a12, a13, a14, a15, l))) else if 0 ≤ j ∧ j < Int.ofNat l.length then (if 0 ≤ wrap64 ((wrap64 (j - 1)).tdiv 2) ∧ wrap64 ((wrap64 (j - 1)).tdiv 2) < Int.ofNat l.length then
      ((cmpE (g l j.toNat) (g l (wrap64 ((wrap64 (j - 1)).tdiv 2)).toNat)).bind fun t0 => if (!decide (t0 < 0)) = true then some (Sum.inr (Sum.inl (j, a0, a1, a2, a3, a4, a5, a6, a7, a8, a9, a10, a11, a12, a13, a14, a15, l))) else if 0 ≤ j ∧ j < Int.ofNat l.length then (if 0 ≤ wrap64 ((wrap64 (j - 1)).tdiv 2) ∧ wrap64 ((wrap64 (j - 1)).tdiv 2) < Int.ofNat l.length then
        (if 0 ≤ wrap64 ((wrap64 (j - 1)).tdiv 2) ∧ wrap64 ((wrap64 (j - 1)).tdiv 2) < Int.ofNat l.length then (if 0 ≤ j ∧ j < Int.ofNat l.length then some (Sum.inl (wrap64 ((wrap64 (j - 1)).tdiv 2), a0, a1, a2, a3, a4, a5, a6, a7, a8, a9, a10, a11, a12, a13, a14, a15, swap l (wrap64 ((wrap64 (j - 1)).tdiv 2)).toNat j.toNat)) else none) else none) else none) else none) else none) else none) := rfl
theorem up_step (j : Nat) (a0 a1 a2 a3 a4 a5 a6 a7 a8 a9 a10 a11 a12 a13 a14 a15 : Int) (l : List Ms) (hj : j < l.length) (hl : l.length ≤ 1000000) : container_heap_up.step0 ((j : Int), a0, a1, a2, a3, a4, a5, a6, a7, a8, a9, a10, a11, a12, a13, a14, a15, l) =
    if j = 0 then some (.inr (.inl ((j : Int), a0, a1, a2, a3, a4, a5, a6, a7, a8, a9, a10, a11, a12, a13, a14, a15, l))) else if lt (g l j) (g l ((j - 1) / 2)) then some (.inl ((((j - 1) / 2 : Nat) : Int), a0, a1, a2, a3, a4, a5, a6, a7, a8, a9, a10, a11, a12, a13, a14, a15, swap l ((j - 1) / 2) j)) else some (.inr (.inl ((j : Int), a0, a1, a2, a3, a4, a5, a6, a7, a8, a9, a10, a11, a12, a13, a14, a15, l))) := by
  rw [up_def]
  by_cases h0 : j = 0
  · subst h0
    rw [if_pos (by rw [show ((0 : Nat) : Int) - 1 = -1 from rfl, wr (-1) (by omega), show (-1 : Int).tdiv 2 = 0 from rfl, wr 0 (by omega)]; rfl), if_pos rfl]
  · have e : wrap64 ((wrap64 ((j : Int) - 1)).tdiv 2) = (((j - 1) / 2 : Nat) : Int) := by
      rw [wr ((j : Int) - 1) (by omega), Int.tdiv_eq_ediv_of_nonneg (by omega), wr _ (by omega)]
      omega
    have i1 : 0 ≤ (j : Int) ∧ (j : Int) < Int.ofNat l.length := ⟨by omega, by show (j : Int) < (l.length : Int); omega⟩
    have i2 : 0 ≤ (((j - 1) / 2 : Nat) : Int) ∧ (((j - 1) / 2 : Nat) : Int) < Int.ofNat l.length := ⟨by omega, by show _ < (l.length : Int); omega⟩
    rw [e, if_neg (by omega), if_neg h0, if_pos i1, if_pos i2, Int.toNat_natCast, Int.toNat_natCast, cmpE_eq, Option.bind_some]
    by_cases hlt : lt (g l j) (g l ((j - 1) / 2))
    · rw [if_pos hlt, if_neg (by decide), if_pos i1, if_pos i2, if_pos i2, if_pos i1, if_pos hlt]
    · rw [if_neg hlt, if_neg hlt, if_pos (by split <;> decide)]
theorem up_loop : ∀ (f j : Nat) (a0 a1 a2 a3 a4 a5 a6 a7 a8 a9 a10 a11 a12 a13 a14 a15 : Int) (l : List Ms), j < f → j < l.length → l.length ≤ 1000000 → ∃ j' : Int, rounds container_heap_up.step0 ((j : Int), a0, a1, a2, a3, a4, a5, a6, a7, a8, a9, a10, a11, a12, a13, a14, a15, l) = some (.inl (j', a0, a1, a2, a3, a4, a5, a6, a7, a8, a9, a10, a11, a12, a13, a14, a15, upL f l j))
  | 0, j, a0, a1, a2, a3, a4, a5, a6, a7, a8, a9, a10, a11, a12, a13, a14, a15, l, hf, hj, hl => by omega
  | f + 1, j, a0, a1, a2, a3, a4, a5, a6, a7, a8, a9, a10, a11, a12, a13, a14, a15, l, hf, hj, hl => by
    have st := up_step j a0 a1 a2 a3 a4 a5 a6 a7 a8 a9 a10 a11 a12 a13 a14 a15 l hj hl
    by_cases h0 : j = 0
    · rw [if_pos h0] at st
      exact ⟨_, by rw [rounds_end st]; unfold upL; rw [if_pos h0]⟩
    · rw [if_neg h0] at st
      by_cases hlt : lt (g l j) (g l ((j - 1) / 2))
      · rw [if_pos hlt] at st
        obtain ⟨j', h⟩ := up_loop f ((j - 1) / 2) a0 a1 a2 a3 a4 a5 a6 a7 a8 a9 a10 a11 a12 a13 a14 a15 (swap l ((j - 1) / 2) j) (by omega) (by rw [swap_len]; omega) (by rw [swap_len]; exact hl)
        exact ⟨j', by rw [rounds_next st, h]; conv => rhs; unfold upL; rw [if_neg h0, if_pos hlt]⟩
      · rw [if_neg hlt] at st
        exact ⟨_, by rw [rounds_end st]; unfold upL; rw [if_neg h0, if_neg hlt]⟩
def J1 (i : Int) : Int := wrap64 (wrap64 (2 * i) + 1)
def J2 (i : Int) : Int := wrap64 (wrap64 (wrap64 (2 * i) + 1) + 1)
def dnRest (i0 n i : Int) (a0 a1 a2 a3 a4 a5 a6 a7 a8 a9 a10 a11 a12 a13 a14 a15 : Int) (l : List Ms) (j : Int) : Option (container_heap_down.X0 ⊕ (container_heap_down.X0 ⊕ container_heap_down.Y0)) :=
  if 0 ≤ j ∧ j < Int.ofNat l.length then (if 0 ≤ i ∧ i < Int.ofNat l.length then ((cmpE (g l j.toNat) (g l i.toNat)).bind fun t1 => if (!decide (t1 < 0)) = true then some (Sum.inr (Sum.inl (i0, n, i, a0, a1, a2, a3, a4, a5, a6, a7, a8, a9, a10, a11, a12, a13, a14, a15, l))) else
    if 0 ≤ j ∧ j < Int.ofNat l.length then (if 0 ≤ i ∧ i < Int.ofNat l.length then (if 0 ≤ i ∧ i < Int.ofNat l.length then (if 0 ≤ j ∧ j < Int.ofNat l.length then some (Sum.inl (i0, n, j, a0, a1, a2, a3, a4, a5, a6, a7, a8, a9, a10, a11, a12, a13, a14, a15, swap l i.toNat j.toNat)) else none) else none) else none) else none) else none) else none
theorem down_def (i0 n i : Int) (a0 a1 a2 a3 a4 a5 a6 a7 a8 a9 a10 a11 a12 a13 a14 a15 : Int) (l : List Ms) : container_heap_down.step0 (i0, n, i, a0, a1, a2, a3, a4, a5, a6, a7, a8, a9, a10, a11, a12, a13, a14, a15, l) =
    (if J1 i ≥ n then some (Sum.inr (Sum.inl (i0, n, i, a0, a1, a2, a3, a4, a5, a6, a7, a8, a9, a10, a11, a12, a13, a14, a15, l))) else if J1 i < 0 then some (Sum.inr (Sum.inl (i0, n, i, a0, a1, a2, a3, a4, a5, a6, a7, a8, a9, a10, a11, a12, a13, a14, a15, l))) else
     if J2 i < n then (if 0 ≤ J2 i ∧ J2 i < Int.ofNat l.length then (if 0 ≤ J1 i ∧ J1 i < Int.ofNat l.length then ((cmpE (g l (J2 i).toNat) (g l (J1 i).toNat)).bind fun t0 => if t0 < 0 then dnRest i0 n i a0 a1 a2 a3 a4 a5 a6 a7 a8 a9 a10 a11 a12 a13 a14 a15 l (J2 i) else dnRest i0 n i a0 a1 a2 a3 a4 a5 a6 a7 a8 a9 a10 a11 a12 a13 a14 a15 l (J1 i)) else none) else none) else dnRest i0 n i a0 a1 a2 a3 a4 a5 a6 a7 a8 a9 a10 a11 a12 a13 a14 a15 l (J1 i)) := rfl
theorem dn_rest (i0 n : Int) (a0 a1 a2 a3 a4 a5 a6 a7 a8 a9 a10 a11 a12 a13 a14 a15 : Int) (l : List Ms) (i j : Nat) (hi : i < l.length) (hj : j < l.length) : dnRest i0 n (i : Int) a0 a1 a2 a3 a4 a5 a6 a7 a8 a9 a10 a11 a12 a13 a14 a15 l (j : Int) = if lt (g l j) (g l i) then some (Sum.inl (i0, n, (j : Int), a0, a1, a2, a3, a4, a5, a6, a7, a8, a9, a10, a11, a12, a13, a14, a15, swap l i j)) else some (Sum.inr (Sum.inl (i0, n, (i : Int), a0, a1, a2, a3, a4, a5, a6, a7, a8, a9, a10, a11, a12, a13, a14, a15, l))) := by
  have i1 : 0 ≤ (i : Int) ∧ (i : Int) < Int.ofNat l.length := ⟨by omega, by show (i : Int) < (l.length : Int); omega⟩
  have i2 : 0 ≤ (j : Int) ∧ (j : Int) < Int.ofNat l.length := ⟨by omega, by show (j : Int) < (l.length : Int); omega⟩
  unfold dnRest
  rw [if_pos i2, if_pos i1, Int.toNat_natCast, Int.toNat_natCast, cmpE_eq, Option.bind_some]
  by_cases hlt : lt (g l j) (g l i)
  · rw [if_pos hlt, if_neg (by decide), if_pos i2, if_pos i1, if_pos i1, if_pos i2, if_pos hlt]
  · rw [if_neg hlt, if_neg hlt, if_pos (by split <;> decide)]
theorem down_step (i0 : Int) (a0 a1 a2 a3 a4 a5 a6 a7 a8 a9 a10 a11 a12 a13 a14 a15 : Int) (n i : Nat) (l : List Ms) (hn : n ≤ l.length) (hi : i < l.length) (hl : l.length ≤ 1000000) : container_heap_down.step0 (i0, (n : Int), (i : Int), a0, a1, a2, a3, a4, a5, a6, a7, a8, a9, a10, a11, a12, a13, a14, a15, l) =
    if 2 * i + 1 ≥ n then some (.inr (.inl (i0, (n : Int), (i : Int), a0, a1, a2, a3, a4, a5, a6, a7, a8, a9, a10, a11, a12, a13, a14, a15, l))) else if lt (g l (kid l n i)) (g l i) then some (.inl (i0, (n : Int), ((kid l n i : Nat) : Int), a0, a1, a2, a3, a4, a5, a6, a7, a8, a9, a10, a11, a12, a13, a14, a15, swap l i (kid l n i))) else some (.inr (.inl (i0, (n : Int), (i : Int), a0, a1, a2, a3, a4, a5, a6, a7, a8, a9, a10, a11, a12, a13, a14, a15, l))) := by
  rw [down_def]
  have e1 : J1 (i : Int) = ((2 * i + 1 : Nat) : Int) := by
    unfold J1
    rw [wr (2 * (i : Int)) (by omega), wr _ (by omega)]
    omega
  have e2 : J2 (i : Int) = ((2 * i + 2 : Nat) : Int) := by
    unfold J2
    rw [wr (2 * (i : Int)) (by omega), wr (2 * (i : Int) + 1) (by omega), wr _ (by omega)]
    omega
  rw [e1, e2]
  by_cases h : 2 * i + 1 ≥ n
  · rw [if_pos (by omega), if_pos h]
  · rw [if_neg (by omega), if_neg h, if_neg (by omega)]
    by_cases h2 : 2 * i + 2 < n
    · rw [if_pos (by omega), if_pos ⟨by omega, by show _ < (l.length : Int); omega⟩, if_pos ⟨by omega, by show _ < (l.length : Int); omega⟩, Int.toNat_natCast, Int.toNat_natCast, cmpE_eq, Option.bind_some]
      by_cases hlt : lt (g l (2 * i + 2)) (g l (2 * i + 1))
      · have ek : kid l n i = 2 * i + 2 := if_pos ⟨h2, hlt⟩
        rw [if_pos hlt, if_pos (by decide), dn_rest _ _ _ _ _ _ _ _ _ _ _ _ _ _ _ _ _ _ _ _ _ hi (by omega), ek]
      · have ek : kid l n i = 2 * i + 1 := if_neg fun q => hlt q.2
        rw [if_neg hlt, if_neg (by split <;> decide), dn_rest _ _ _ _ _ _ _ _ _ _ _ _ _ _ _ _ _ _ _ _ _ hi (by omega), ek]
    · have ek : kid l n i = 2 * i + 1 := if_neg fun q => h2 q.1
      rw [if_neg (by omega), dn_rest _ _ _ _ _ _ _ _ _ _ _ _ _ _ _ _ _ _ _ _ _ hi (by omega), ek]
theorem down_loop : ∀ (f : Nat) (i0 : Int) (a0 a1 a2 a3 a4 a5 a6 a7 a8 a9 a10 a11 a12 a13 a14 a15 : Int) (n i : Nat) (l : List Ms), n ≤ i + f → n ≤ l.length → i < l.length → l.length ≤ 1000000 → 0 < f → ∃ i' : Int, rounds container_heap_down.step0 (i0, (n : Int), (i : Int), a0, a1, a2, a3, a4, a5, a6, a7, a8, a9, a10, a11, a12, a13, a14, a15, l) = some (.inl (i0, (n : Int), i', a0, a1, a2, a3, a4, a5, a6, a7, a8, a9, a10, a11, a12, a13, a14, a15, downL f l n i))
  | 0, i0, a0, a1, a2, a3, a4, a5, a6, a7, a8, a9, a10, a11, a12, a13, a14, a15, n, i, l, hf, hn, hi, hl, hp => by omega
  | f + 1, i0, a0, a1, a2, a3, a4, a5, a6, a7, a8, a9, a10, a11, a12, a13, a14, a15, n, i, l, hf, hn, hi, hl, hp => by
    have st := down_step i0 a0 a1 a2 a3 a4 a5 a6 a7 a8 a9 a10 a11 a12 a13 a14 a15 n i l hn hi hl
    by_cases h : 2 * i + 1 ≥ n
    · rw [if_pos h] at st
      exact ⟨_, by rw [rounds_end st]; unfold downL; rw [if_pos h]⟩
    · rw [if_neg h] at st
      by_cases hlt : lt (g l (kid l n i)) (g l i)
      · rw [if_pos hlt] at st
        have hk := kid_lt (l := l) h
        obtain ⟨i', e⟩ := down_loop f i0 a0 a1 a2 a3 a4 a5 a6 a7 a8 a9 a10 a11 a12 a13 a14 a15 n (kid l n i) (swap l i (kid l n i)) (by omega) (by rw [swap_len]; exact hn) (by rw [swap_len]; omega) (by rw [swap_len]; exact hl) (by omega)
        exact ⟨i', by rw [rounds_next st, e]; conv => rhs; unfold downL; rw [if_neg h, if_pos hlt]⟩
      · rw [if_neg hlt] at st
        exact ⟨_, by rw [rounds_end st]; unfold downL; rw [if_neg h, if_neg hlt]⟩
theorem down_eq (i0 : Int) (a0 a1 a2 a3 a4 a5 a6 a7 a8 a9 a10 a11 a12 a13 a14 a15 : Int) (n i f : Nat) (l : List Ms) (hi0 : i0 = (i : Int)) (hf : n ≤ i + f) (hn : n ≤ l.length) (hi : i < l.length) (hl : l.length ≤ 1000000) (hp : 0 < f) : ∃ b, container_heap_down.f (i0, (n : Int), a0, a1, a2, a3, a4, a5, a6, a7, a8, a9, a10, a11, a12, a13, a14, a15, l) = some (b, a0, a1, a2, a3, a4, a5, a6, a7, a8, a9, a10, a11, a12, a13, a14, a15, downL f l n i) := by
  subst hi0
  unfold container_heap_down.f
  dsimp only
  obtain ⟨i', e⟩ := down_loop f (i : Int) a0 a1 a2 a3 a4 a5 a6 a7 a8 a9 a10 a11 a12 a13 a14 a15 n i l hf hn hi hl hp
  rw [guardEq_self, e]
  exact ⟨_, rfl⟩
def has (m : Ms) (l : List Ms) : Prop := ∃ e ∈ l, sk e m
instance (m : Ms) (l : List Ms) : Decidable (has m l) := by unfold has; infer_instance
theorem has_g {m : Ms} {l : List Ms} : has m l ↔ ∃ j, j < l.length ∧ sk (g l j) m := by
  constructor
  · rintro ⟨e, he, h⟩
    obtain ⟨j, hj, rfl⟩ := List.mem_iff_getElem.1 he
    exact ⟨j, hj, by rw [gl_eq hj]; exact h⟩
  · rintro ⟨j, hj, h⟩
    exact ⟨_, g_mem hj, h⟩
theorem has_step (i : Nat) (m : Ms) (l : List Ms) (hl : l.length ≤ 1000000) : slices_IndexFunc_api_Message_api_Message.step0 ((i : Int), (l.length : Int), m.1, m.2.1, m.2.2.1, m.2.2.2, l) =
    if i < l.length then (if sk (g l i) m then some (.inr (.inr ((i : Int), m.1, m.2.1, m.2.2.1, m.2.2.2, l))) else some (.inl (((i + 1 : Nat) : Int), (l.length : Int), m.1, m.2.1, m.2.2.1, m.2.2.2, l))) else some (.inr (.inl ((i : Int), (l.length : Int), m.1, m.2.1, m.2.2.1, m.2.2.2, l))) := by
  have d : slices_IndexFunc_api_Message_api_Message.step0 ((i : Int), (l.length : Int), m.1, m.2.1, m.2.2.1, m.2.2.2, l) =
    (if (i : Int) < (l.length : Int) then (if 0 ≤ (i : Int) ∧ (i : Int) < Int.ofNat l.length then ((cmpE (g l (i : Int).toNat) m).bind fun t0 => if t0 = 0 then some (.inr (.inr ((i : Int), m.1, m.2.1, m.2.2.1, m.2.2.2, l))) else some (.inl (wrap64 ((i : Int) + 1), (l.length : Int), m.1, m.2.1, m.2.2.1, m.2.2.2, l))) else none) else some (.inr (.inl ((i : Int), (l.length : Int), m.1, m.2.1, m.2.2.1, m.2.2.2, l)))) := rfl
  rw [d]
  by_cases h : i < l.length
  · rw [if_pos (by omega), if_pos ⟨by omega, by show (i : Int) < (l.length : Int); omega⟩, cmpE_eq, Option.bind_some, Int.toNat_natCast, if_pos h]
    by_cases hs : sk (g l i) m
    · rw [if_pos ((cmp0 _ _).2 hs), if_pos hs]
    · rw [if_neg (fun e => hs ((cmp0 _ _).1 e)), if_neg hs, wr _ (by omega)]
      rfl
  · rw [if_neg (by omega), if_neg h]
theorem has_loop : ∀ (k i : Nat) (m : Ms) (l : List Ms), i + k = l.length → l.length ≤ 1000000 →
    ((∃ j, i ≤ j ∧ j < l.length ∧ sk (g l j) m) ∧ ∃ y : Int, 0 ≤ y ∧ rounds slices_IndexFunc_api_Message_api_Message.step0 ((i : Int), (l.length : Int), m.1, m.2.1, m.2.2.1, m.2.2.2, l) = some (.inr (y, m.1, m.2.1, m.2.2.1, m.2.2.2, l))) ∨
    ((¬ ∃ j, i ≤ j ∧ j < l.length ∧ sk (g l j) m) ∧ ∃ i' : Int, rounds slices_IndexFunc_api_Message_api_Message.step0 ((i : Int), (l.length : Int), m.1, m.2.1, m.2.2.1, m.2.2.2, l) = some (.inl (i', (l.length : Int), m.1, m.2.1, m.2.2.1, m.2.2.2, l)))
  | 0, i, m, l, hk, hl => by
    have st := has_step i m l hl
    rw [if_neg (by omega)] at st
    exact .inr ⟨fun ⟨j, h1, h2, _⟩ => by omega, _, rounds_end st⟩
  | k + 1, i, m, l, hk, hl => by
    have st := has_step i m l hl
    rw [if_pos (by omega)] at st
    by_cases hs : sk (g l i) m
    · rw [if_pos hs] at st
      exact .inl ⟨⟨i, Nat.le_refl _, by omega, hs⟩, _, by omega, rounds_end st⟩
    · rw [if_neg hs] at st
      rcases has_loop k (i + 1) m l (by omega) hl with ⟨⟨j, h1, h2, h3⟩, y, hy, h⟩ | ⟨hno, y, h⟩
      · exact .inl ⟨⟨j, by omega, h2, h3⟩, y, hy, (rounds_next st).trans h⟩
      · refine .inr ⟨fun ⟨j, h1, h2, h3⟩ => ?_, y, (rounds_next st).trans h⟩
        rcases Nat.lt_or_ge i j with h4 | h4
        · exact hno ⟨j, h4, h2, h3⟩
        · have : j = i := by omega
          subst this
          exact hs h3
theorem has_eq (a0 a1 a2 a3 a4 a5 a6 a7 a8 a9 a10 a11 a12 a13 a14 a15 : Int) (h0 : ¬ a0 = 0) (m : Ms) (l : List Ms) (hl : l.length ≤ 1000000) : holdback_Hold_Has.f (m.1, m.2.1, m.2.2.1, m.2.2.2, a0, a1, a2, a3, a4, a5, a6, a7, a8, a9, a10, a11, a12, a13, a14, a15, l) = some (decide (has m l), a0, a1, a2, a3, a4, a5, a6, a7, a8, a9, a10, a11, a12, a13, a14, a15, l) := by
  unfold holdback_Hold_Has.f
  dsimp only
  rw [if_pos (by rw [decide_eq_false h0]; rfl), guardEq_self]
  rcases has_loop l.length 0 m l (by omega) hl with ⟨⟨j, _, h2, h3⟩, y, hy, h⟩ | ⟨hno, y, h⟩
  · have h' : rounds slices_IndexFunc_api_Message_api_Message.step0 (0, Int.ofNat l.length, m.1, m.2.1, m.2.2.1, m.2.2.2, l) = _ := h
    rw [h', Option.bind_some]
    dsimp only
    rw [decide_eq_true (show y ≥ 0 from hy), decide_eq_true (has_g.2 ⟨j, h2, h3⟩)]
  · have h' : rounds slices_IndexFunc_api_Message_api_Message.step0 (0, Int.ofNat l.length, m.1, m.2.1, m.2.2.1, m.2.2.2, l) = _ := h
    rw [h', Option.bind_some]
    dsimp only
    rw [decide_eq_false (fun q => hno (by obtain ⟨j, h1, h2⟩ := has_g.1 q; exact ⟨j, Nat.zero_le _, h1, h2⟩))]
def code (N R D L : Int) (m : Ms) (rd : Int) (l : List Ms) : Int :=
  if 0 ≤ m.1 ∧ m.1 ≤ 4294967296 ∧ 0 ≤ m.2.1 ∧ m.2.1 < N ∧ 0 ≤ m.2.2.1 ∧ m.2.2.1 ≤ 2147483647 ∧ (m.2.2.2.length : Int) ≤ L then
    if 0 ≤ rd ∧ rd ≤ 1099511627776 ∧ m.1 - rd ≤ R then if rd - m.1 > D - R then 241 else if has m l then 242 else 0 else 240
  else 240
structure Pln (N R D L : Int) : Prop where
  n : 4 ≤ N ∧ N ≤ 16
  r : 4 ≤ R ∧ R ≤ 16777216
  d : 4 * R ≤ D ∧ D ≤ 1073741824
  l : 0 ≤ L ∧ L ≤ 1000000
theorem pln (a0 a1 a2 a3 a4 a5 a6 a7 a8 a9 a10 a11 a12 a13 a14 a15 : Int) (h : FS a0 a1 a2 a3 a4 a5 a6 a7 a8 a9 a10 a11 a12 a13 a14 a15 = 0) : Pln a0 (a0 * a2) a11 a14 := by
  obtain ⟨h1, h2, h3, h4, h5, h6, h7, h8, _⟩ := fs_zero a0 a1 a2 a3 a4 a5 a6 a7 a8 a9 a10 a11 a12 a13 a14 a15 h
  have k1 := h1
  unfold KN C1 C2 C3 at k1
  have hr := rb ⟨k1.1.1, k1.1.2.1⟩ ⟨k1.2.2.1, k1.2.2.2.1⟩
  have hq := (qb h7).1
  have hm : 4 * (a0 * a2) ≤ (Q a12 a13 + 3) * (a0 * a2) := Int.mul_le_mul_of_nonneg_right (by omega) (by omega)
  have hg := gb (n := a0) (s := a2) (r := a8) ⟨k1.1.1, k1.1.2.1⟩ ⟨k1.2.2.1, k1.2.2.2.1⟩ (by omega)
  unfold UP A E at h2
  unfold C9 at h7
  exact ⟨⟨k1.1.1, k1.1.2.1⟩, hr, ⟨by omega, by omega⟩, by omega⟩
theorem put_eq (a0 a1 a2 a3 a4 a5 a6 a7 a8 a9 a10 a11 a12 a13 a14 a15 : Int) (h : FS a0 a1 a2 a3 a4 a5 a6 a7 a8 a9 a10 a11 a12 a13 a14 a15 = 0) (m : Ms) (rd : Int) (l : List Ms) (hl : l.length < 16384) :
    holdback_Hold_Put.f (m.1, m.2.1, m.2.2.1, m.2.2.2, rd, a0, a1, a2, a3, a4, a5, a6, a7, a8, a9, a10, a11, a12, a13, a14, a15, l) = some (code a0 (a0 * a2) a11 a14 m rd l, a0, a1, a2, a3, a4, a5, a6, a7, a8, a9, a10, a11, a12, a13, a14, a15, if code a0 (a0 * a2) a11 a14 m rd l = 0 then putL l m else l) := by
  have hp := pln a0 a1 a2 a3 a4 a5 a6 a7 a8 a9 a10 a11 a12 a13 a14 a15 h
  have hk := (fs_zero a0 a1 a2 a3 a4 a5 a6 a7 a8 a9 a10 a11 a12 a13 a14 a15 h).1
  obtain ⟨s, k, n, pl⟩ := m
  have hhas := has_eq a0 a1 a2 a3 a4 a5 a6 a7 a8 a9 a10 a11 a12 a13 a14 a15 (by have := hp.n; omega) (s, k, n, pl) l (by omega)
  have hup : ∃ j', rounds container_heap_up.step0 (wrap64 (Int.ofNat l.length + 1 - 1), a0, a1, a2, a3, a4, a5, a6, a7, a8, a9, a10, a11, a12, a13, a14, a15, l ++ [(s, k, n, pl)]) = some (.inl (j', a0, a1, a2, a3, a4, a5, a6, a7, a8, a9, a10, a11, a12, a13, a14, a15, putL l (s, k, n, pl))) := by
    rw [wr (Int.ofNat l.length + 1 - 1) (by show _ ≤ (l.length : Int) + 1 - 1 ∧ (l.length : Int) + 1 - 1 ≤ _; omega), show Int.ofNat l.length + 1 - 1 = ((l.length : Nat) : Int) by show (l.length : Int) + 1 - 1 = _; omega]
    exact up_loop (l.length + 1) l.length a0 a1 a2 a3 a4 a5 a6 a7 a8 a9 a10 a11 a12 a13 a14 a15 (l ++ [(s, k, n, pl)]) (by omega) (by simp) (by simp; omega)
  obtain ⟨j', hup⟩ := hup
  unfold holdback_Hold_Put.f
  dsimp only at hhas ⊢
  have n0 : ¬ a0 = 0 := by have := hp.n; omega
  rw [if_neg n0, pround_eq, if_pos hk, Option.bind_some]
  generalize a0 * a2 = R at hp
  obtain ⟨pn, pr, pd, pL⟩ := hp
  unfold code
  dsimp only
  by_cases c1 : s ≥ 0
  · rw [if_pos c1]
    by_cases c2 : s ≤ 4294967296
    · rw [if_pos c2]
      by_cases c3 : k ≥ 0
      · rw [if_pos c3]
        by_cases c4 : k < a0
        · rw [if_pos c4]
          by_cases c5 : n ≥ 0
          · rw [if_pos c5]
            by_cases c6 : n ≤ 2147483647
            · rw [if_pos c6]
              by_cases c7 : (pl.length : Int) ≤ a14
              · rw [if_neg (by rw [show Int.ofNat pl.length = (pl.length : Int) from rfl, decide_eq_true c7]; decide)]
                rw [if_pos (show 0 ≤ s ∧ s ≤ 4294967296 ∧ 0 ≤ k ∧ k < a0 ∧ 0 ≤ n ∧ n ≤ 2147483647 ∧ (pl.length : Int) ≤ a14 from ⟨c1, c2, c3, c4, c5, c6, c7⟩)]
                by_cases c8 : rd < 0
                · rw [if_pos c8, if_neg (fun q => by omega)]
                  rfl
                · rw [if_neg c8]
                  by_cases c9 : rd > 1099511627776
                  · rw [if_pos c9, if_neg (fun q => by omega)]
                    rfl
                  · rw [if_neg c9, wr (s - rd) (by omega)]
                    by_cases c10 : s - rd > R
                    · rw [if_pos c10, if_neg (fun q => by omega)]
                      rfl
                    · rw [if_neg c10, if_neg n0, if_neg (by show ¬ (l.length : Int) ≥ 16384; omega), wr (rd - s) (by omega), wr (a11 - R) (by omega), if_pos (show 0 ≤ rd ∧ rd ≤ 1099511627776 ∧ s - rd ≤ R from ⟨by omega, by omega, by omega⟩)]
                      by_cases c11 : rd - s > a11 - R
                      · rw [if_pos c11, if_pos c11]
                        rfl
                      · rw [if_neg c11, if_neg c11, hhas, Option.bind_some]
                        dsimp only
                        by_cases c12 : has (s, k, n, pl) l
                        · rw [if_pos (decide_eq_true c12), if_pos c12]
                          rfl
                        · rw [if_neg (by rw [decide_eq_false c12]; decide), if_neg c12]
                          have e1 : Int.ofNat l.length + 1 ≤ 2872193639904 := by show (l.length : Int) + 1 ≤ _; omega
                          have e2 : 0 + Int.ofNat pl.length ≤ 70368744177664 := by show 0 + (pl.length : Int) ≤ _; omega
                          simp only [if_pos e1, if_pos e2, List.nil_append, guardEq_self]
                          by_cases hz : pl = []
                          · subst hz
                            simp only [hup, Option.bind_some, Go.Proofs.Ytaoplfmaiclfkaa.SX.sameO_self, ite_self]
                            rfl
                          · have e3 : 1 ≤ Int.ofNat pl.length := by
                              have := List.length_pos_iff.2 hz
                              show (1 : Int) ≤ (pl.length : Int)
                              omega
                            simp only [if_pos e3, hup, Option.bind_some, Go.Proofs.Ytaoplfmaiclfkaa.SX.sameO_self]
                            rfl
              · rw [if_pos (by rw [show Int.ofNat pl.length = (pl.length : Int) from rfl, decide_eq_false c7]; decide), if_neg (fun q => c7 q.2.2.2.2.2.2)]
                rfl
            · rw [if_neg c6, if_neg (fun q => c6 q.2.2.2.2.2.1)]
              rfl
          · rw [if_neg c5, if_neg (fun q => c5 q.2.2.2.2.1)]
            rfl
        · rw [if_neg c4, if_neg (fun q => c4 q.2.2.2.1)]
          rfl
      · rw [if_neg c3, if_neg (fun q => c3 q.2.2.1)]
        rfl
    · rw [if_neg c2, if_neg (fun q => c2 q.2.1)]
      rfl
  · rw [if_neg c1, if_neg (fun q => c1 q.1)]
    rfl
def duB (l : List Ms) : Bool := if l.length = 0 then false else true
def duT (D : Int) (l : List Ms) : Int := if l.length = 0 then 0 else (g l 0).1 + D
def St (l : List Ms) : Prop := ∀ e ∈ l, 0 ≤ e.1 ∧ e.1 ≤ 4294967296
theorem due_eq (a0 a1 a2 a3 a4 a5 a6 a7 a8 a9 a10 a11 a12 a13 a14 a15 : Int) (n0 : ¬ a0 = 0) (hd : 0 ≤ a11 ∧ a11 ≤ 1073741824) (l : List Ms) (hs : St l) : holdback_Hold_Due.f (a0, a1, a2, a3, a4, a5, a6, a7, a8, a9, a10, a11, a12, a13, a14, a15, l) = some (duT a11 l, duB l, a0, a1, a2, a3, a4, a5, a6, a7, a8, a9, a10, a11, a12, a13, a14, a15, l) := by
  unfold holdback_Hold_Due.f duT duB
  dsimp only
  rw [if_neg n0]
  by_cases h : l.length = 0
  · rw [if_pos (by show (l.length : Int) = 0; omega), if_pos h, if_pos h]
  · have := hs _ (g_mem (l := l) (i := 0) (by omega))
    rw [if_neg (by show ¬ (l.length : Int) = 0; omega), if_pos ⟨by omega, by show (0 : Int) < (l.length : Int); omega⟩, if_neg h, if_neg h]
    show some (wrap64 ((g l 0).1 + a11), _) = _
    rw [wr _ (by omega)]
theorem len_eq (a0 a1 a2 a3 a4 a5 a6 a7 a8 a9 a10 a11 a12 a13 a14 a15 : Int) (n0 : ¬ a0 = 0) (l : List Ms) : holdback_Hold_Len.f (a0, a1, a2, a3, a4, a5, a6, a7, a8, a9, a10, a11, a12, a13, a14, a15, l) = some ((l.length : Int), a0, a1, a2, a3, a4, a5, a6, a7, a8, a9, a10, a11, a12, a13, a14, a15, l) := by
  unfold holdback_Hold_Len.f
  dsimp only
  rw [if_neg n0]
  rfl
def tk (D rd : Int) : Nat → List Ms → List Ms × List Ms
  | 0, l => ([], l)
  | f + 1, l => if 0 < l.length ∧ (g l 0).1 + D ≤ rd then (g l 0 :: (tk D rd f (takeL l)).1, (tk D rd f (takeL l)).2) else ([], l)
def WL (l : List Ms) : Int := wrap64 (Int.ofNat l.length - 1)
def ripeRest (rd : Int) (out : List Ms) (a0 a1 a2 a3 a4 a5 a6 a7 a8 a9 a10 a11 a12 a13 a14 a15 : Int) (L : List Ms) : Option (holdback_Hold_ripe_1.X0 ⊕ (holdback_Hold_ripe_1.X0 ⊕ holdback_Hold_ripe_1.Y0)) :=
  if 0 ≤ WL L ∧ WL L < Int.ofNat L.length then (if 0 ≤ WL L then (if WL L ≤ Int.ofNat L.length then (if Int.ofNat out.length + 1 ≤ 2872193639904 then (if a0 = 0 then some (.inl (false, 0, rd, out ++ [g L (WL L).toNat], a0, a1, a2, a3, a4, a5, a6, a7, a8, a9, a10, a11, a12, a13, a14, a15, L.take (WL L).toNat)) else
    (if WL L = 0 then some (.inl (false, 0, rd, out ++ [g L (WL L).toNat], a0, a1, a2, a3, a4, a5, a6, a7, a8, a9, a10, a11, a12, a13, a14, a15, L.take (WL L).toNat)) else (if (0 : Int) ≤ (0 : Int) ∧ (0 : Int) < WL L then some (.inl (true, wrap64 ((g L (Int.toNat 0)).1 + a11), rd, out ++ [g L (WL L).toNat], a0, a1, a2, a3, a4, a5, a6, a7, a8, a9, a10, a11, a12, a13, a14, a15, L.take (WL L).toNat)) else none))) else none) else none) else none) else none
theorem ripe_def (b : Bool) (d rd : Int) (out : List Ms) (a0 a1 a2 a3 a4 a5 a6 a7 a8 a9 a10 a11 a12 a13 a14 a15 : Int) (l : List Ms) : holdback_Hold_ripe_1.step0 (b, d, rd, out, a0, a1, a2, a3, a4, a5, a6, a7, a8, a9, a10, a11, a12, a13, a14, a15, l) =
    (if b = true then (if d ≤ rd then (if 0 ≤ WL l ∧ WL l < Int.ofNat l.length then (if (0 : Int) ≤ (0 : Int) ∧ (0 : Int) < Int.ofNat l.length then (if (0 : Int) ≤ (0 : Int) ∧ (0 : Int) < Int.ofNat l.length then (if 0 ≤ WL l ∧ WL l < Int.ofNat l.length then
      ((container_heap_down.f (0, WL l, a0, a1, a2, a3, a4, a5, a6, a7, a8, a9, a10, a11, a12, a13, a14, a15, swap l (Int.toNat 0) (WL l).toNat)).bind fun t0 => ripeRest rd out t0.2.1 t0.2.2.1 t0.2.2.2.1 t0.2.2.2.2.1 t0.2.2.2.2.2.1 t0.2.2.2.2.2.2.1 t0.2.2.2.2.2.2.2.1 t0.2.2.2.2.2.2.2.2.1 t0.2.2.2.2.2.2.2.2.2.1 t0.2.2.2.2.2.2.2.2.2.2.1 t0.2.2.2.2.2.2.2.2.2.2.2.1 t0.2.2.2.2.2.2.2.2.2.2.2.2.1 t0.2.2.2.2.2.2.2.2.2.2.2.2.2.1 t0.2.2.2.2.2.2.2.2.2.2.2.2.2.2.1 t0.2.2.2.2.2.2.2.2.2.2.2.2.2.2.2.1 t0.2.2.2.2.2.2.2.2.2.2.2.2.2.2.2.2.1 t0.2.2.2.2.2.2.2.2.2.2.2.2.2.2.2.2.2) else none) else none) else none) else none) else some (.inr (.inl (b, d, rd, out, a0, a1, a2, a3, a4, a5, a6, a7, a8, a9, a10, a11, a12, a13, a14, a15, l)))) else some (.inr (.inl (b, d, rd, out, a0, a1, a2, a3, a4, a5, a6, a7, a8, a9, a10, a11, a12, a13, a14, a15, l)))) := rfl
theorem St.take {l : List Ms} (h : St l) (hl : 0 < l.length) : St (takeL l) := fun e he => h e ((takeL_perm hl).mem_iff.2 (List.mem_cons_of_mem _ he))
theorem ripe_next (rd : Int) (out : List Ms) (a0 a1 a2 a3 a4 a5 a6 a7 a8 a9 a10 a11 a12 a13 a14 a15 : Int) (n0 : ¬ a0 = 0) (hd : 0 ≤ a11 ∧ a11 ≤ 1073741824) (l : List Ms) (hs : St l) (h0 : 0 < l.length) (hr : (g l 0).1 + a11 ≤ rd) (hl : l.length ≤ 16384) (ho : out.length ≤ 1000000) :
    holdback_Hold_ripe_1.step0 (true, (g l 0).1 + a11, rd, out, a0, a1, a2, a3, a4, a5, a6, a7, a8, a9, a10, a11, a12, a13, a14, a15, l) = some (.inl (duB (takeL l), duT a11 (takeL l), rd, out ++ [g l 0], a0, a1, a2, a3, a4, a5, a6, a7, a8, a9, a10, a11, a12, a13, a14, a15, takeL l)) := by
  rw [ripe_def]
  have e : WL l = ((l.length - 1 : Nat) : Int) := by
    unfold WL
    show wrap64 ((l.length : Int) - 1) = _
    rw [wr _ (by omega)]
    omega
  have i1 : (0 : Int) ≤ 0 ∧ (0 : Int) < Int.ofNat l.length := ⟨by omega, by show _ < (l.length : Int); omega⟩
  have i2 : 0 ≤ ((l.length - 1 : Nat) : Int) ∧ ((l.length - 1 : Nat) : Int) < Int.ofNat l.length := ⟨by omega, by show _ < (l.length : Int); omega⟩
  rw [if_pos rfl, if_pos hr, e, if_pos i2, if_pos i1, if_pos i1, if_pos i2, Int.toNat_natCast]
  obtain ⟨b, hd2⟩ := down_eq 0 a0 a1 a2 a3 a4 a5 a6 a7 a8 a9 a10 a11 a12 a13 a14 a15 (l.length - 1) 0 l.length (swap l 0 (l.length - 1)) rfl (by omega) (by rw [swap_len]; omega) (by rw [swap_len]; omega) (by rw [swap_len]; omega) h0
  rw [show Int.toNat 0 = 0 from rfl, hd2, Option.bind_some]
  dsimp only
  have hlen : (downL l.length (swap l 0 (l.length - 1)) (l.length - 1) 0).length = l.length := by
    rw [(downL_perm _ _ _ _ (by rw [swap_len]; omega) (by rw [swap_len]; omega)).length_eq, swap_len]
  have hlast : g (downL l.length (swap l 0 (l.length - 1)) (l.length - 1) 0) (l.length - 1) = g l 0 := by
    rcases Nat.eq_zero_or_pos (l.length - 1) with hz | hz
    · have hn : l.length = 1 := by omega
      have : downL l.length (swap l 0 (l.length - 1)) (l.length - 1) 0 = l := by
        rw [hz]
        conv => lhs; rw [hn]
        unfold downL
        rw [if_pos (by omega), swap_self l 0 h0]
      rw [this, hz]
    · rw [downL_rest _ _ _ _ _ (by rw [swap_len]; omega) (by rw [swap_len]; omega) (Nat.le_refl _) hz, g_swap _ _ _ _ h0 (by omega), if_pos rfl]
  have hw : WL (downL l.length (swap l 0 (l.length - 1)) (l.length - 1) 0) = ((l.length - 1 : Nat) : Int) := by
    unfold WL at e ⊢
    rw [hlen, e]
  have htl : (takeL l).length = l.length - 1 := takeL_len h0
  unfold ripeRest
  rw [hw, hlen, if_pos i2, if_pos i2.1, if_pos (Int.le_of_lt i2.2), if_pos (by show (out.length : Int) + 1 ≤ _; omega), if_neg n0, Int.toNat_natCast, hlast]
  rcases Nat.eq_zero_or_pos (l.length - 1) with hz | hz
  · rw [if_pos (by omega)]
    unfold duB duT
    rw [if_pos (by omega), if_pos (by omega)]
    rfl
  · rw [if_neg (by omega), if_pos ⟨by omega, by omega⟩]
    unfold duB duT
    rw [if_neg (by omega), if_neg (by omega)]
    have hg : g (takeL l) 0 = g (downL l.length (swap l 0 (l.length - 1)) (l.length - 1) 0) 0 := g_take hz (by omega)
    have := (hs.take h0) _ (g_mem (l := takeL l) (i := 0) (by omega))
    rw [show Int.toNat 0 = 0 from rfl, ← hg, wr _ (by omega)]
    rfl
theorem ripe_stop (rd : Int) (out : List Ms) (a0 a1 a2 a3 a4 a5 a6 a7 a8 a9 a10 a11 a12 a13 a14 a15 : Int) (l : List Ms) (h : ¬ (0 < l.length ∧ (g l 0).1 + a11 ≤ rd)) : holdback_Hold_ripe_1.step0 (duB l, duT a11 l, rd, out, a0, a1, a2, a3, a4, a5, a6, a7, a8, a9, a10, a11, a12, a13, a14, a15, l) = some (.inr (.inl (duB l, duT a11 l, rd, out, a0, a1, a2, a3, a4, a5, a6, a7, a8, a9, a10, a11, a12, a13, a14, a15, l))) := by
  rw [ripe_def]
  unfold duB duT
  by_cases h0 : l.length = 0
  · rw [if_pos h0, if_neg (by decide)]
  · rw [if_neg h0, if_pos rfl, if_neg h0, if_neg (fun q => h ⟨by omega, q⟩)]
theorem ripe_loop : ∀ (f : Nat) (rd : Int) (out : List Ms) (a0 a1 a2 a3 a4 a5 a6 a7 a8 a9 a10 a11 a12 a13 a14 a15 : Int) (l : List Ms), ¬ a0 = 0 → (0 ≤ a11 ∧ a11 ≤ 1073741824) → St l → l.length ≤ f → l.length ≤ 16384 → out.length + f ≤ 1000000 →
    ∃ (b : Bool) (d : Int), rounds holdback_Hold_ripe_1.step0 (duB l, duT a11 l, rd, out, a0, a1, a2, a3, a4, a5, a6, a7, a8, a9, a10, a11, a12, a13, a14, a15, l) = some (.inl (b, d, rd, out ++ (tk a11 rd f l).1, a0, a1, a2, a3, a4, a5, a6, a7, a8, a9, a10, a11, a12, a13, a14, a15, (tk a11 rd f l).2))
  | 0, rd, out, a0, a1, a2, a3, a4, a5, a6, a7, a8, a9, a10, a11, a12, a13, a14, a15, l, n0, hd, hs, hf, hl, ho => by
    have st := ripe_stop rd out a0 a1 a2 a3 a4 a5 a6 a7 a8 a9 a10 a11 a12 a13 a14 a15 l (fun q => by omega)
    refine ⟨duB l, duT a11 l, ?_⟩
    unfold tk
    rw [List.append_nil]
    exact rounds_end st
  | f + 1, rd, out, a0, a1, a2, a3, a4, a5, a6, a7, a8, a9, a10, a11, a12, a13, a14, a15, l, n0, hd, hs, hf, hl, ho => by
    unfold tk
    by_cases h : 0 < l.length ∧ (g l 0).1 + a11 ≤ rd
    · rw [if_pos h]
      have hlt : (takeL l).length = l.length - 1 := takeL_len h.1
      obtain ⟨b, d, e⟩ := ripe_loop f rd (out ++ [g l 0]) a0 a1 a2 a3 a4 a5 a6 a7 a8 a9 a10 a11 a12 a13 a14 a15 (takeL l) n0 hd (hs.take h.1) (by omega) (by omega) (by simp; omega)
      refine ⟨b, d, ?_⟩
      have st := ripe_next rd out a0 a1 a2 a3 a4 a5 a6 a7 a8 a9 a10 a11 a12 a13 a14 a15 n0 hd l hs h.1 h.2 hl (by omega)
      have e1 : duB l = true := if_neg (by omega)
      have e2 : duT a11 l = (g l 0).1 + a11 := if_neg (by omega)
      rw [e1, e2, rounds_next st, e, List.append_assoc]
      rfl
    · rw [if_neg h]
      have st := ripe_stop rd out a0 a1 a2 a3 a4 a5 a6 a7 a8 a9 a10 a11 a12 a13 a14 a15 l h
      refine ⟨duB l, duT a11 l, ?_⟩
      rw [List.append_nil]
      exact rounds_end st
theorem take_eq (rd : Int) (a0 a1 a2 a3 a4 a5 a6 a7 a8 a9 a10 a11 a12 a13 a14 a15 : Int) (n0 : ¬ a0 = 0) (hd : 0 ≤ a11 ∧ a11 ≤ 1073741824) (l : List Ms) (hs : St l) (hl : l.length ≤ 16384) :
    holdback_Hold_Take.f (rd, a0, a1, a2, a3, a4, a5, a6, a7, a8, a9, a10, a11, a12, a13, a14, a15, l) = some (a0, a1, a2, a3, a4, a5, a6, a7, a8, a9, a10, a11, a12, a13, a14, a15, (tk a11 rd l.length l).2, (tk a11 rd l.length l).1) := by
  unfold holdback_Hold_Take.f
  dsimp only
  rw [if_neg n0, due_eq a0 a1 a2 a3 a4 a5 a6 a7 a8 a9 a10 a11 a12 a13 a14 a15 n0 hd l hs, Option.bind_some]
  dsimp only
  obtain ⟨b, d, e⟩ := ripe_loop l.length rd [] a0 a1 a2 a3 a4 a5 a6 a7 a8 a9 a10 a11 a12 a13 a14 a15 l n0 hd hs (Nat.le_refl _) hl (by simp; omega)
  rw [guardEq_self, e, Option.bind_some, List.nil_append]
def drain : Nat → List Ms → List Ms
  | 0, _ => []
  | f + 1, h => if h.length = 0 then [] else g h 0 :: drain f (takeL h)
def D (h : List Ms) : List Ms := drain h.length h
theorem drain_eq : ∀ (f k : Nat) (h : List Ms), h.length ≤ f → h.length ≤ k → drain f h = drain k h
  | 0, k, h, hf, hk => by
    have : h = [] := List.eq_nil_of_length_eq_zero (by omega)
    subst this
    cases k <;> rfl
  | f + 1, 0, h, hf, hk => by
    have : h = [] := List.eq_nil_of_length_eq_zero (by omega)
    subst this
    rfl
  | f + 1, k + 1, h, hf, hk => by
    unfold drain
    by_cases h0 : h.length = 0
    · rw [if_pos h0, if_pos h0]
    · have := takeL_len (l := h) (by omega)
      rw [if_neg h0, if_neg h0, drain_eq f k (takeL h) (by omega) (by omega)]
theorem D_nil {h : List Ms} (h0 : h.length = 0) : D h = [] := by
  unfold D
  rw [h0]
  rfl
theorem D_cons {h : List Ms} (h0 : 0 < h.length) : D h = g h 0 :: D (takeL h) := by
  have hl := takeL_len h0
  unfold D
  rw [show h.length = (takeL h).length + 1 by omega]
  conv => lhs; unfold drain
  rw [if_neg (by omega)]
theorem D_perm (n : Nat) : ∀ (h : List Ms), h.length = n → (D h).Perm h := by
  induction n with
  | zero =>
    intro h hl
    rw [D_nil hl, List.eq_nil_of_length_eq_zero hl]
  | succ n ih =>
    intro h hl
    rw [D_cons (by omega)]
    exact ((ih (takeL h) (by rw [takeL_len (by omega)]; omega)).cons _).trans (takeL_perm (by omega)).symm
theorem D_len (h : List Ms) : (D h).length = h.length := (D_perm _ h rfl).length_eq
def Srt (l : List Ms) : Prop := l.Pairwise fun a b => ¬ lt b a
theorem D_sorted (n : Nat) : ∀ (h : List Ms), h.length = n → Heap h → Srt (D h) := by
  induction n with
  | zero =>
    intro h hl _
    rw [D_nil hl]
    exact List.Pairwise.nil
  | succ n ih =>
    intro h hl hh
    rw [D_cons (by omega)]
    refine List.Pairwise.cons (fun e he => ?_) (ih (takeL h) (by rw [takeL_len (by omega)]; omega) (takeL_heap hh (by omega)))
    have h1 := (D_perm _ (takeL h) rfl).mem_iff.1 he
    exact heap_first hh e ((takeL_perm (by omega)).mem_iff.2 (List.mem_cons_of_mem _ h1))
theorem uniq_srt : ∀ (l m : List Ms), l.Perm m → Srt l → Srt m → (∀ a ∈ l, ∀ b ∈ l, ¬ lt a b → ¬ lt b a → a = b) → l = m
  | [], m, hp, _, _, _ => (List.nil_perm.1 hp).symm
  | a :: l, [], hp, _, _, _ => absurd hp.length_eq (by simp)
  | a :: l, b :: m, hp, hl, hm, hu => by
    have hab : a = b := by
      have ha : a ∈ b :: m := hp.mem_iff.1 List.mem_cons_self
      have hb : b ∈ a :: l := hp.mem_iff.2 List.mem_cons_self
      rcases List.mem_cons.1 ha with e | ha'
      · exact e
      · rcases List.mem_cons.1 hb with e | hb'
        · exact e.symm
        · exact hu a List.mem_cons_self b hb (List.rel_of_pairwise_cons hm ha') (List.rel_of_pairwise_cons hl hb')
    subst hab
    rw [uniq_srt l m hp.cons_inv hl.of_cons hm.of_cons fun x hx y hy => hu x (List.mem_cons_of_mem _ hx) y (List.mem_cons_of_mem _ hy)]
theorem tk_D (dl rd : Int) : ∀ (f : Nat) (l : List Ms), l.length ≤ f → (tk dl rd f l).1 = (D l).takeWhile (fun e => decide (e.1 + dl ≤ rd)) ∧ D (tk dl rd f l).2 = (D l).dropWhile (fun e => decide (e.1 + dl ≤ rd)) ∧
    (0 < (tk dl rd f l).2.length → rd < (g (tk dl rd f l).2 0).1 + dl) ∧ (Heap l → Heap (tk dl rd f l).2) ∧ (tk dl rd f l).2.length ≤ l.length ∧ ∀ e ∈ (tk dl rd f l).2, e ∈ l
  | 0, l, h => by
    have : l = [] := List.eq_nil_of_length_eq_zero (by omega)
    subst this
    exact ⟨rfl, rfl, fun h => absurd h (by simp [tk]), fun h => h, Nat.le_refl _, fun e he => he⟩
  | f + 1, l, h => by
    unfold tk
    by_cases hc : 0 < l.length ∧ (g l 0).1 + dl ≤ rd
    · rw [if_pos hc]
      have htl := takeL_len hc.1
      obtain ⟨h1, h2, h3, h4, h5, h6⟩ := tk_D dl rd f (takeL l) (by omega)
      rw [D_cons hc.1, List.takeWhile_cons, List.dropWhile_cons, decide_eq_true hc.2]
      exact ⟨by rw [h1]; rfl, h2, h3, fun hh => h4 (takeL_heap hh hc.1), by dsimp only; omega, fun e he => (takeL_perm hc.1).mem_iff.2 (List.mem_cons_of_mem _ (h6 e he))⟩
    · rw [if_neg hc]
      by_cases h0 : l.length = 0
      · rw [D_nil h0]
        exact ⟨rfl, rfl, fun h => absurd h (by dsimp only; omega), fun h => h, Nat.le_refl _, fun e he => he⟩
      · have hn : ¬ (g l 0).1 + dl ≤ rd := fun q => hc ⟨by omega, q⟩
        rw [D_cons (by omega), List.takeWhile_cons, List.dropWhile_cons, decide_eq_false hn]
        exact ⟨rfl, rfl, fun _ => by show rd < (g l 0).1 + dl; omega, fun h => h, Nat.le_refl _, fun e he => he⟩
theorem sst (i : Nat) (l : List Ms) (hl : l.length ≤ 1000000) : vespersref24_Same.step0 ((i : Int), l, l) = if i < l.length then some (.inl (((i + 1 : Nat) : Int), l, l)) else some (.inr (.inl ((i : Int), l, l))) := by
  have d : vespersref24_Same.step0 ((i : Int), l, l) = (if (i : Int) < Int.ofNat l.length then (if 0 ≤ (i : Int) ∧ (i : Int) < Int.ofNat l.length then (if 0 ≤ (i : Int) ∧ (i : Int) < Int.ofNat l.length then
    ((vespersref24_Compare.f ((g l (i : Int).toNat).1, (g l (i : Int).toNat).2.1, (g l (i : Int).toNat).2.2.1, (g l (i : Int).toNat).2.2.2, (g l (i : Int).toNat).1, (g l (i : Int).toNat).2.1, (g l (i : Int).toNat).2.2.1, (g l (i : Int).toNat).2.2.2)).bind fun t0 => if t0 ≠ 0 then some (.inr (.inr ())) else
      (if 0 ≤ (i : Int) ∧ (i : Int) < Int.ofNat l.length then (if 0 ≤ (i : Int) ∧ (i : Int) < Int.ofNat l.length then (if ¬ Go.Proofs.Ytaoplfmaiclfkaa.SX.natsOf (Go.Proofs.Ytaoplfmaiclfkaa.SX.bsOf (g l (i : Int).toNat).2.2.2) = Go.Proofs.Ytaoplfmaiclfkaa.SX.natsOf (Go.Proofs.Ytaoplfmaiclfkaa.SX.bsOf (g l (i : Int).toNat).2.2.2) then some (.inr (.inr ())) else some (.inl (wrap64 ((i : Int) + 1), l, l))) else none) else none)) else none) else none) else some (.inr (.inl ((i : Int), l, l)))) := rfl
  rw [d]
  by_cases h : i < l.length
  · have i1 : 0 ≤ (i : Int) ∧ (i : Int) < Int.ofNat l.length := ⟨by omega, by show (i : Int) < (l.length : Int); omega⟩
    rw [if_pos i1.2, if_pos i1, if_pos i1, if_pos h]
    unfold vespersref24_Compare.f
    dsimp only
    rw [if_neg (Int.lt_irrefl _), if_neg (Int.lt_irrefl _), if_neg (Int.lt_irrefl _), if_neg (Int.lt_irrefl _), if_neg (Int.lt_irrefl _), if_neg (Int.lt_irrefl _), Option.bind_some, if_neg (fun h => h rfl), if_pos i1, if_pos i1, if_neg (fun h => h rfl), wr _ (by omega)]
    rfl
  · rw [if_neg (by show ¬ (i : Int) < (l.length : Int); omega), if_neg h]
theorem same_loop : ∀ (k i : Nat) (l : List Ms), i + k = l.length → l.length ≤ 1000000 → ∃ y, rounds vespersref24_Same.step0 ((i : Int), l, l) = some (.inl y)
  | 0, i, l, hk, hl => by
    have st := sst i l hl
    rw [if_neg (by omega)] at st
    exact ⟨_, rounds_end st⟩
  | k + 1, i, l, hk, hl => by
    have st := sst i l hl
    rw [if_pos (by omega)] at st
    obtain ⟨y, h⟩ := same_loop k (i + 1) l (by omega) hl
    exact ⟨y, (rounds_next st).trans h⟩
theorem same_refl (l : List Ms) (hl : l.length ≤ 1000000) : vespersref24_Same.f (l, l) = some true := by
  unfold vespersref24_Same.f
  dsimp only
  rw [if_neg (fun h => h rfl), guardEq_self]
  obtain ⟨y, h⟩ := same_loop l.length 0 l (by omega) hl
  have h' : rounds vespersref24_Same.step0 (0, l, l) = _ := h
  rw [h', Option.bind_some]
theorem alive_ok : vesperslaw24_alive.f = some true := by
  unfold vesperslaw24_alive.f vesperslaw24_some.f
  have hF : FS 4 1 512 248 96 1 1 3 100000 88 64 10416 2 1 4 81920 = 0 := by decide
  have c1 : code 4 (4 * 512) 10416 4 (100, 2, 0, [2]) 100 [] = 0 := by decide
  have c2 : code 4 (4 * 512) 10416 4 (100, 1, 0, [1]) 300 [(100, 2, 0, [2])] = 0 := by decide
  have c3 : code 4 (4 * 512) 10416 4 (50, 3, 0, [3]) 400 [(100, 1, 0, [1]), (100, 2, 0, [2])] = 0 := by decide
  have p1 := put_eq 4 1 512 248 96 1 1 3 100000 88 64 10416 2 1 4 81920 hF (100, 2, 0, [2]) 100 [] (by decide)
  have p2 := put_eq 4 1 512 248 96 1 1 3 100000 88 64 10416 2 1 4 81920 hF (100, 1, 0, [1]) 300 [(100, 2, 0, [2])] (by decide)
  have p3 := put_eq 4 1 512 248 96 1 1 3 100000 88 64 10416 2 1 4 81920 hF (50, 3, 0, [3]) 400 [(100, 1, 0, [1]), (100, 2, 0, [2])] (by decide)
  have l1 : putL [] ((100, 2, 0, [2]) : Ms) = [(100, 2, 0, [2])] := rfl
  have l2 : putL [(100, 2, 0, [2])] ((100, 1, 0, [1]) : Ms) = [(100, 1, 0, [1]), (100, 2, 0, [2])] := by decide
  have l3 : putL [(100, 1, 0, [1]), (100, 2, 0, [2])] ((50, 3, 0, [3]) : Ms) = [(50, 3, 0, [3]), (100, 2, 0, [2]), (100, 1, 0, [1])] := by decide
  rw [c1, if_pos rfl, l1] at p1
  rw [c2, if_pos rfl, l2] at p2
  rw [c3, if_pos rfl, l3] at p3
  have hs : St [(50, 3, 0, [3]), (100, 2, 0, [2]), (100, 1, 0, [1])] := by unfold St; decide
  have d := due_eq 4 1 512 248 96 1 1 3 100000 88 64 10416 2 1 4 81920 (by decide) (by decide) _ hs
  have e := len_eq 4 1 512 248 96 1 1 3 100000 88 64 10416 2 1 4 81920 (by decide) [(50, 3, 0, [3]), (100, 2, 0, [2]), (100, 1, 0, [1])]
  dsimp only at p1 p2 p3
  simp only [Option.bind_some]
  rw [check_eq, if_pos hF, Option.bind_some, if_neg (by decide), p1, Option.bind_some]
  dsimp only
  rw [p2, Option.bind_some]
  dsimp only
  rw [p3, Option.bind_some]
  dsimp only
  rw [if_neg (by decide), if_neg (by decide), if_neg (by decide), d, Option.bind_some]
  dsimp only
  rw [if_pos (by decide), if_pos (by decide), e, Option.bind_some]
  rfl
theorem sk_symm {a b : Ms} (h : sk a b) : sk b a := by unfold sk at *; omega
theorem code_has (N R Dl L : Int) (m : Ms) (rd : Int) (l : List Ms) (h : code N R Dl L m rd [] = 0) : code N R Dl L m rd l = if has m l then 242 else 0 := by
  unfold code at h ⊢
  by_cases h1 : 0 ≤ m.1 ∧ m.1 ≤ 4294967296 ∧ 0 ≤ m.2.1 ∧ m.2.1 < N ∧ 0 ≤ m.2.2.1 ∧ m.2.2.1 ≤ 2147483647 ∧ (m.2.2.2.length : Int) ≤ L
  · rw [if_pos h1] at h ⊢
    by_cases h2 : 0 ≤ rd ∧ rd ≤ 1099511627776 ∧ m.1 - rd ≤ R
    · rw [if_pos h2] at h ⊢
      by_cases h3 : rd - m.1 > Dl - R
      · rw [if_pos h3] at h
        omega
      · rw [if_neg h3]
    · rw [if_neg h2] at h
      omega
  · rw [if_neg h1] at h
    omega
theorem code_zero (N R Dl L : Int) (m : Ms) (rd : Int) (l : List Ms) (h : code N R Dl L m rd l = 0) : code N R Dl L m rd [] = 0 ∧ ¬ has m l ∧ 0 ≤ m.1 ∧ m.1 ≤ 4294967296 := by
  unfold code at h ⊢
  by_cases h1 : 0 ≤ m.1 ∧ m.1 ≤ 4294967296 ∧ 0 ≤ m.2.1 ∧ m.2.1 < N ∧ 0 ≤ m.2.2.1 ∧ m.2.2.1 ≤ 2147483647 ∧ (m.2.2.2.length : Int) ≤ L
  · rw [if_pos h1] at h ⊢
    by_cases h2 : 0 ≤ rd ∧ rd ≤ 1099511627776 ∧ m.1 - rd ≤ R
    · rw [if_pos h2] at h ⊢
      by_cases h3 : rd - m.1 > Dl - R
      · rw [if_pos h3] at h
        omega
      · rw [if_neg h3] at h ⊢
        by_cases h4 : has m l
        · rw [if_pos h4] at h
          omega
        · exact ⟨if_neg (fun ⟨_, h, _⟩ => (by cases h)), h4, h1.1, h1.2.1⟩
    · rw [if_neg h2] at h
      omega
  · rw [if_neg h1] at h
    omega
abbrev Op : Type := Int × (Int × Int × Int × List Int) × Int
def go (l : List Op) (i : Nat) : Op := l.getD i (0, (0, 0, 0, []), 0)
def msg (o : Op) : Ms := (if Int.tmod o.2.1.1 10000 > 0 then Int.tmod o.2.1.1 10000 else 0, o.2.1.2.1, o.2.1.2.2.1, o.2.1.2.2.2)
structure Put (N R Dl L : Int) (h put : List Ms) : Prop where
  heap : Heap h
  perm : h.Perm put
  apart : put.Pairwise fun a b => ¬ sk a b
  ok : ∀ e ∈ put, code N R Dl L e 0 [] = 0
theorem l0 (a0 a1 a2 a3 a4 a5 a6 a7 a8 a9 a10 a11 a12 a13 a14 a15 : Int) (hF : FS a0 a1 a2 a3 a4 a5 a6 a7 a8 a9 a10 a11 a12 a13 a14 a15 = 0) : ∀ (k i : Nat) (l : List Op) (st : List Int) (ok : Bool) (La Lb put : List Ms), i + k = l.length → l.length ≤ 60 → Put a0 (a0 * a2) a11 a14 La put → La.length ≤ i →
    ∃ (i' : Int) (La' put' : List Ms), rounds lHO.step0 ((i : Int), (l.length : Int), l, st, ok, a0, a1, a2, a3, a4, a5, a6, a7, a8, a9, a10, a11, a12, a13, a14, a15, La, a0, a1, a2, a3, a4, a5, a6, a7, a8, a9, a10, a11, a12, a13, a14, a15, Lb, a0, a1, a2, a3, a4, a5, a6, a7, a8, a9, a10, a11, a12, a13, a14, a15, put) = some (.inl (i', (l.length : Int), l, st, ok, a0, a1, a2, a3, a4, a5, a6, a7, a8, a9, a10, a11, a12, a13, a14, a15, La', a0, a1, a2, a3, a4, a5, a6, a7, a8, a9, a10, a11, a12, a13, a14, a15, Lb, a0, a1, a2, a3, a4, a5, a6, a7, a8, a9, a10, a11, a12, a13, a14, a15, put')) ∧ Put a0 (a0 * a2) a11 a14 La' put' ∧ La'.length ≤ 60
  | 0, i, l, st, ok, La, Lb, put, hk, hl, hp, hi => by
    have s : lHO.step0 ((i : Int), (l.length : Int), l, st, ok, a0, a1, a2, a3, a4, a5, a6, a7, a8, a9, a10, a11, a12, a13, a14, a15, La, a0, a1, a2, a3, a4, a5, a6, a7, a8, a9, a10, a11, a12, a13, a14, a15, Lb, a0, a1, a2, a3, a4, a5, a6, a7, a8, a9, a10, a11, a12, a13, a14, a15, put) = some (.inr (.inl ((i : Int), (l.length : Int), l, st, ok, a0, a1, a2, a3, a4, a5, a6, a7, a8, a9, a10, a11, a12, a13, a14, a15, La, a0, a1, a2, a3, a4, a5, a6, a7, a8, a9, a10, a11, a12, a13, a14, a15, Lb, a0, a1, a2, a3, a4, a5, a6, a7, a8, a9, a10, a11, a12, a13, a14, a15, put))) := by
      unfold lHO.step0
      dsimp only
      rw [if_neg (by omega)]
    exact ⟨_, _, _, rounds_end s, hp, by omega⟩
  | k + 1, i, l, st, ok, La, Lb, put, hk, hl, hp, hi => by
    have i1 : 0 ≤ (i : Int) ∧ (i : Int) < Int.ofNat l.length := ⟨by omega, by show (i : Int) < (l.length : Int); omega⟩
    have hlen := hp.perm.length_eq
    have key : lHO.step0 ((i : Int), (l.length : Int), l, st, ok, a0, a1, a2, a3, a4, a5, a6, a7, a8, a9, a10, a11, a12, a13, a14, a15, La, a0, a1, a2, a3, a4, a5, a6, a7, a8, a9, a10, a11, a12, a13, a14, a15, Lb, a0, a1, a2, a3, a4, a5, a6, a7, a8, a9, a10, a11, a12, a13, a14, a15, put) =
        if code a0 (a0 * a2) a11 a14 (msg (go l i)) 0 La = 0 then some (.inl (((i + 1 : Nat) : Int), (l.length : Int), l, st, ok, a0, a1, a2, a3, a4, a5, a6, a7, a8, a9, a10, a11, a12, a13, a14, a15, putL La (msg (go l i)), a0, a1, a2, a3, a4, a5, a6, a7, a8, a9, a10, a11, a12, a13, a14, a15, Lb, a0, a1, a2, a3, a4, a5, a6, a7, a8, a9, a10, a11, a12, a13, a14, a15, put ++ [msg (go l i)])) else some (.inl (((i + 1 : Nat) : Int), (l.length : Int), l, st, ok, a0, a1, a2, a3, a4, a5, a6, a7, a8, a9, a10, a11, a12, a13, a14, a15, La, a0, a1, a2, a3, a4, a5, a6, a7, a8, a9, a10, a11, a12, a13, a14, a15, Lb, a0, a1, a2, a3, a4, a5, a6, a7, a8, a9, a10, a11, a12, a13, a14, a15, put)) := by
      unfold lHO.step0
      dsimp only
      rw [if_pos (show (i : Int) < (l.length : Int) from i1.2), if_pos i1]
      show ((holdback_Hold_Put.f ((msg (go l i)).1, (msg (go l i)).2.1, (msg (go l i)).2.2.1, (msg (go l i)).2.2.2, 0, a0, a1, a2, a3, a4, a5, a6, a7, a8, a9, a10, a11, a12, a13, a14, a15, La)).bind _) = _
      rw [put_eq a0 a1 a2 a3 a4 a5 a6 a7 a8 a9 a10 a11 a12 a13 a14 a15 hF (msg (go l i)) 0 La (by omega), Option.bind_some]
      dsimp only
      rw [wr ((i : Int) + 1) (by omega)]
      by_cases hc : code a0 (a0 * a2) a11 a14 (msg (go l i)) 0 La = 0
      · rw [if_pos hc, if_pos hc, if_pos hc, if_pos (by show (put.length : Int) + 1 ≤ _; omega)]
        rfl
      · rw [if_neg hc, if_neg hc, if_neg hc]
        rfl
    by_cases hc : code a0 (a0 * a2) a11 a14 (msg (go l i)) 0 La = 0
    · rw [if_pos hc] at key
      obtain ⟨z1, z2, _⟩ := code_zero _ _ _ _ _ _ _ hc
      have hp2 : Put a0 (a0 * a2) a11 a14 (putL La (msg (go l i))) (put ++ [msg (go l i)]) := ⟨putL_heap hp.heap _, (putL_perm La _).trans ((hp.perm.cons _).trans (List.perm_append_singleton _ _).symm),
        List.pairwise_append.2 ⟨hp.apart, List.pairwise_singleton _ _, fun a ha b hb hs => z2 ⟨a, hp.perm.mem_iff.2 ha, by rw [List.mem_singleton.1 hb] at hs; exact hs⟩⟩,
        fun e he => by
          rcases List.mem_append.1 he with h | h
          · exact hp.ok e h
          · rw [List.mem_singleton.1 h]
            exact z1⟩
      obtain ⟨i', La', put', h1, h2⟩ := l0 a0 a1 a2 a3 a4 a5 a6 a7 a8 a9 a10 a11 a12 a13 a14 a15 hF k (i + 1) l st ok _ Lb _ (by omega) hl hp2 (by rw [putL_len]; omega)
      exact ⟨i', La', put', (rounds_next key).trans h1, h2⟩
    · rw [if_neg hc] at key
      obtain ⟨i', La', put', h1, h2⟩ := l0 a0 a1 a2 a3 a4 a5 a6 a7 a8 a9 a10 a11 a12 a13 a14 a15 hF k (i + 1) l st ok La Lb put (by omega) hl hp (by omega)
      exact ⟨i', La', put', (rounds_next key).trans h1, h2⟩
theorem l1 (a0 a1 a2 a3 a4 a5 a6 a7 a8 a9 a10 a11 a12 a13 a14 a15 : Int) (hF : FS a0 a1 a2 a3 a4 a5 a6 a7 a8 a9 a10 a11 a12 a13 a14 a15 = 0) (st : List Int) (ok : Bool) (La put : List Ms) (hl : put.length ≤ 60) (ha : put.Pairwise fun a b => ¬ sk a b) (hok : ∀ e ∈ put, code a0 (a0 * a2) a11 a14 e 0 [] = 0) : ∀ (k : Nat) (Lb : List Ms), k ≤ put.length → Heap Lb → Lb.Perm (put.drop k) →
    ∃ (i' : Int) (Lb' : List Ms), rounds lHO.step1 ((k : Int) - 1, st, ok, a0, a1, a2, a3, a4, a5, a6, a7, a8, a9, a10, a11, a12, a13, a14, a15, La, a0, a1, a2, a3, a4, a5, a6, a7, a8, a9, a10, a11, a12, a13, a14, a15, Lb, a0, a1, a2, a3, a4, a5, a6, a7, a8, a9, a10, a11, a12, a13, a14, a15, put) = some (.inl (i', st, ok, a0, a1, a2, a3, a4, a5, a6, a7, a8, a9, a10, a11, a12, a13, a14, a15, La, a0, a1, a2, a3, a4, a5, a6, a7, a8, a9, a10, a11, a12, a13, a14, a15, Lb', a0, a1, a2, a3, a4, a5, a6, a7, a8, a9, a10, a11, a12, a13, a14, a15, put)) ∧ Heap Lb' ∧ Lb'.Perm put
  | 0, Lb, hk, hh, hp => by
    have s : lHO.step1 (((0 : Nat) : Int) - 1, st, ok, a0, a1, a2, a3, a4, a5, a6, a7, a8, a9, a10, a11, a12, a13, a14, a15, La, a0, a1, a2, a3, a4, a5, a6, a7, a8, a9, a10, a11, a12, a13, a14, a15, Lb, a0, a1, a2, a3, a4, a5, a6, a7, a8, a9, a10, a11, a12, a13, a14, a15, put) = some (.inr (.inl (((0 : Nat) : Int) - 1, st, ok, a0, a1, a2, a3, a4, a5, a6, a7, a8, a9, a10, a11, a12, a13, a14, a15, La, a0, a1, a2, a3, a4, a5, a6, a7, a8, a9, a10, a11, a12, a13, a14, a15, Lb, a0, a1, a2, a3, a4, a5, a6, a7, a8, a9, a10, a11, a12, a13, a14, a15, put))) := by
      unfold lHO.step1
      dsimp only
      rw [if_neg (by omega)]
    exact ⟨_, _, rounds_end s, hh, hp⟩
  | k + 1, Lb, hk, hh, hp => by
    have i1 : 0 ≤ (k : Int) ∧ (k : Int) < Int.ofNat put.length := ⟨by omega, by show (k : Int) < (put.length : Int); omega⟩
    have hd : put.drop k = g put k :: put.drop (k + 1) := by rw [gl_eq (by omega)]; exact List.drop_eq_getElem_cons (by omega)
    have hlb : Lb.length ≤ 60 := by
      rw [hp.length_eq, List.length_drop]
      omega
    have hno : ¬ has (g put k) Lb := by
      rintro ⟨e, he, hs⟩
      have hpw := List.Pairwise.drop (i := k) ha
      rw [hd] at hpw
      exact List.rel_of_pairwise_cons hpw (hp.mem_iff.1 he) (sk_symm hs)
    have hcd := hok _ (g_mem (l := put) (i := k) (by omega))
    have c1 : code a0 (a0 * a2) a11 a14 (g put k) 0 Lb = 0 := by rw [code_has _ _ _ _ _ _ _ hcd, if_neg hno]
    have hyes : has (g put k) (putL Lb (g put k)) := ⟨g put k, (putL_perm _ _).mem_iff.2 List.mem_cons_self, rfl, rfl, rfl⟩
    have c2 : code a0 (a0 * a2) a11 a14 (g put k) 0 (putL Lb (g put k)) = 242 := by rw [code_has _ _ _ _ _ _ _ hcd, if_pos hyes]
    have key : lHO.step1 (((k + 1 : Nat) : Int) - 1, st, ok, a0, a1, a2, a3, a4, a5, a6, a7, a8, a9, a10, a11, a12, a13, a14, a15, La, a0, a1, a2, a3, a4, a5, a6, a7, a8, a9, a10, a11, a12, a13, a14, a15, Lb, a0, a1, a2, a3, a4, a5, a6, a7, a8, a9, a10, a11, a12, a13, a14, a15, put) = some (.inl ((k : Int) - 1, st, ok, a0, a1, a2, a3, a4, a5, a6, a7, a8, a9, a10, a11, a12, a13, a14, a15, La, a0, a1, a2, a3, a4, a5, a6, a7, a8, a9, a10, a11, a12, a13, a14, a15, putL Lb (g put k), a0, a1, a2, a3, a4, a5, a6, a7, a8, a9, a10, a11, a12, a13, a14, a15, put)) := by
      rw [show ((k + 1 : Nat) : Int) - 1 = (k : Int) by omega]
      unfold lHO.step1
      dsimp only
      rw [if_pos i1.1, if_pos i1]
      show ((holdback_Hold_Put.f ((g put k).1, (g put k).2.1, (g put k).2.2.1, (g put k).2.2.2, 0, a0, a1, a2, a3, a4, a5, a6, a7, a8, a9, a10, a11, a12, a13, a14, a15, Lb)).bind _) = _
      rw [put_eq a0 a1 a2 a3 a4 a5 a6 a7 a8 a9 a10 a11 a12 a13 a14 a15 hF (g put k) 0 Lb (by omega), Option.bind_some, c1]
      dsimp only
      rw [if_neg (fun h => h rfl), if_pos i1, if_pos rfl]
      show ((holdback_Hold_Put.f ((g put k).1, (g put k).2.1, (g put k).2.2.1, (g put k).2.2.2, 0, a0, a1, a2, a3, a4, a5, a6, a7, a8, a9, a10, a11, a12, a13, a14, a15, putL Lb (g put k))).bind _) = _
      rw [put_eq a0 a1 a2 a3 a4 a5 a6 a7 a8 a9 a10 a11 a12 a13 a14 a15 hF (g put k) 0 (putL Lb (g put k)) (by rw [putL_len]; omega), Option.bind_some, c2]
      dsimp only
      rw [if_neg (fun h => h rfl), if_neg (by decide), wr ((k : Int) - 1) (by omega)]
    obtain ⟨i', Lb', h1, h2⟩ := l1 a0 a1 a2 a3 a4 a5 a6 a7 a8 a9 a10 a11 a12 a13 a14 a15 hF st ok La put hl ha hok k (putL Lb (g put k)) (by omega) (putL_heap hh _) ((putL_perm _ _).trans (by rw [hd]; exact hp.cons _))
    exact ⟨i', Lb', (rounds_next key).trans h1, h2⟩
theorem l2 (a0 a1 a2 a3 a4 a5 a6 a7 a8 a9 a10 a11 a12 a13 a14 a15 : Int) (q1 q2 now : Int) (st : List Int) (ok : Bool) (La Lb put out : List Ms) (hd : 0 ≤ a11 ∧ a11 ≤ 1073741824) (hs : St out) (hl : out.length ≤ 1000) (hn : ∀ e ∈ out, e.1 + a11 ≤ now) : ∀ (k i : Nat) (x : List Ms), i + k = out.length → x.length + k ≤ 1000000 →
    ∃ i' : Int, rounds lHO.step2 ((i : Int), (out.length : Int), q1, q2, st, now, ok, a0, a1, a2, a3, a4, a5, a6, a7, a8, a9, a10, a11, a12, a13, a14, a15, La, a0, a1, a2, a3, a4, a5, a6, a7, a8, a9, a10, a11, a12, a13, a14, a15, Lb, a0, a1, a2, a3, a4, a5, a6, a7, a8, a9, a10, a11, a12, a13, a14, a15, put, x, out) = some (.inl (i', (out.length : Int), q1, q2, st, now, ok, a0, a1, a2, a3, a4, a5, a6, a7, a8, a9, a10, a11, a12, a13, a14, a15, La, a0, a1, a2, a3, a4, a5, a6, a7, a8, a9, a10, a11, a12, a13, a14, a15, Lb, a0, a1, a2, a3, a4, a5, a6, a7, a8, a9, a10, a11, a12, a13, a14, a15, put, x ++ out.drop i, out))
  | 0, i, x, hk, hx => by
    have s : lHO.step2 ((i : Int), (out.length : Int), q1, q2, st, now, ok, a0, a1, a2, a3, a4, a5, a6, a7, a8, a9, a10, a11, a12, a13, a14, a15, La, a0, a1, a2, a3, a4, a5, a6, a7, a8, a9, a10, a11, a12, a13, a14, a15, Lb, a0, a1, a2, a3, a4, a5, a6, a7, a8, a9, a10, a11, a12, a13, a14, a15, put, x, out) = some (.inr (.inl ((i : Int), (out.length : Int), q1, q2, st, now, ok, a0, a1, a2, a3, a4, a5, a6, a7, a8, a9, a10, a11, a12, a13, a14, a15, La, a0, a1, a2, a3, a4, a5, a6, a7, a8, a9, a10, a11, a12, a13, a14, a15, Lb, a0, a1, a2, a3, a4, a5, a6, a7, a8, a9, a10, a11, a12, a13, a14, a15, put, x, out))) := by
      unfold lHO.step2
      dsimp only
      rw [if_neg (by omega)]
    refine ⟨(i : Int), ?_⟩
    rw [List.drop_eq_nil_of_le (by omega), List.append_nil]
    exact rounds_end s
  | k + 1, i, x, hk, hx => by
    have i1 : 0 ≤ (i : Int) ∧ (i : Int) < Int.ofNat out.length := ⟨by omega, by show (i : Int) < (out.length : Int); omega⟩
    have hm := g_mem (l := out) (i := i) (by omega)
    have h1 := hs _ hm
    have h2 := hn _ hm
    have hdr : out.drop i = g out i :: out.drop (i + 1) := by rw [gl_eq (by omega)]; exact List.drop_eq_getElem_cons (by omega)
    have key : lHO.step2 ((i : Int), (out.length : Int), q1, q2, st, now, ok, a0, a1, a2, a3, a4, a5, a6, a7, a8, a9, a10, a11, a12, a13, a14, a15, La, a0, a1, a2, a3, a4, a5, a6, a7, a8, a9, a10, a11, a12, a13, a14, a15, Lb, a0, a1, a2, a3, a4, a5, a6, a7, a8, a9, a10, a11, a12, a13, a14, a15, put, x, out) = some (.inl (((i + 1 : Nat) : Int), (out.length : Int), q1, q2, st, now, ok, a0, a1, a2, a3, a4, a5, a6, a7, a8, a9, a10, a11, a12, a13, a14, a15, La, a0, a1, a2, a3, a4, a5, a6, a7, a8, a9, a10, a11, a12, a13, a14, a15, Lb, a0, a1, a2, a3, a4, a5, a6, a7, a8, a9, a10, a11, a12, a13, a14, a15, put, x ++ [g out i], out)) := by
      unfold lHO.step2
      dsimp only
      rw [if_pos (show (i : Int) < (out.length : Int) from i1.2), if_pos i1]
      show (if wrap64 ((g out i).1 + a11) > now then _ else _) = _
      rw [wr _ (by omega), if_neg (by omega), if_pos (by show (x.length : Int) + 1 ≤ _; omega), wr ((i : Int) + 1) (by omega)]
      rfl
    obtain ⟨i', h⟩ := l2 a0 a1 a2 a3 a4 a5 a6 a7 a8 a9 a10 a11 a12 a13 a14 a15 q1 q2 now st ok La Lb put out hd hs hl hn k (i + 1) (x ++ [g out i]) (by omega) (by simp; omega)
    refine ⟨i', (rounds_next key).trans ?_⟩
    rw [h, hdr, List.append_assoc]
    rfl
def gs (st : List Int) (i : Nat) : Int := st.getD i 0
theorem gs_mem {st : List Int} {i : Nat} (h : i < st.length) : gs st i ∈ st := by
  unfold gs
  rw [List.getD_eq_getElem?_getD, List.getElem?_eq_getElem h]
  exact List.getElem_mem h
theorem l3 (a0 a1 a2 a3 a4 a5 a6 a7 a8 a9 a10 a11 a12 a13 a14 a15 : Int) (n0 : ¬ a0 = 0) (hd : 0 ≤ a11 ∧ a11 ≤ 1073741824) (st : List Int) (ok : Bool) (Lb put X : List Ms) (hst : ∀ s ∈ st, 0 ≤ s ∧ s ≤ 65535) (hsl : st.length ≤ 30) (hX : X.length ≤ 60) : ∀ (k i : Nat) (now : Int) (La x : List Ms), i + k = st.length → Heap La → St La → x ++ D La = X → 0 ≤ now → now ≤ 65535 * i →
    ∃ (i' now' : Int) (La' x' : List Ms), rounds lHO.step3 ((i : Int), (st.length : Int), st, now, ok, a0, a1, a2, a3, a4, a5, a6, a7, a8, a9, a10, a11, a12, a13, a14, a15, La, a0, a1, a2, a3, a4, a5, a6, a7, a8, a9, a10, a11, a12, a13, a14, a15, Lb, a0, a1, a2, a3, a4, a5, a6, a7, a8, a9, a10, a11, a12, a13, a14, a15, put, x) = some (.inl (i', (st.length : Int), st, now', ok, a0, a1, a2, a3, a4, a5, a6, a7, a8, a9, a10, a11, a12, a13, a14, a15, La', a0, a1, a2, a3, a4, a5, a6, a7, a8, a9, a10, a11, a12, a13, a14, a15, Lb, a0, a1, a2, a3, a4, a5, a6, a7, a8, a9, a10, a11, a12, a13, a14, a15, put, x')) ∧ Heap La' ∧ St La' ∧ x' ++ D La' = X
  | 0, i, now, La, x, hk, hh, hs, hx, h0, h1 => by
    have s : lHO.step3 ((i : Int), (st.length : Int), st, now, ok, a0, a1, a2, a3, a4, a5, a6, a7, a8, a9, a10, a11, a12, a13, a14, a15, La, a0, a1, a2, a3, a4, a5, a6, a7, a8, a9, a10, a11, a12, a13, a14, a15, Lb, a0, a1, a2, a3, a4, a5, a6, a7, a8, a9, a10, a11, a12, a13, a14, a15, put, x) = some (.inr (.inl ((i : Int), (st.length : Int), st, now, ok, a0, a1, a2, a3, a4, a5, a6, a7, a8, a9, a10, a11, a12, a13, a14, a15, La, a0, a1, a2, a3, a4, a5, a6, a7, a8, a9, a10, a11, a12, a13, a14, a15, Lb, a0, a1, a2, a3, a4, a5, a6, a7, a8, a9, a10, a11, a12, a13, a14, a15, put, x))) := by
      unfold lHO.step3
      dsimp only
      rw [if_neg (by omega)]
    exact ⟨_, _, _, _, rounds_end s, hh, hs, hx⟩
  | k + 1, i, now, La, x, hk, hh, hs, hx, h0, h1 => by
    have i1 : 0 ≤ (i : Int) ∧ (i : Int) < Int.ofNat st.length := ⟨by omega, by show (i : Int) < (st.length : Int); omega⟩
    have hm := hst _ (gs_mem (st := st) (i := i) (by omega))
    have hlen : x.length + La.length = X.length := by rw [← hx, List.length_append, D_len]
    obtain ⟨t1, t2, t3, t4, t5, t6⟩ := tk_D a11 (now + gs st i) La.length La (Nat.le_refl _)
    have hs2 : St (tk a11 (now + gs st i) La.length La).2 := fun e he => hs e (t6 e he)
    have hout : ∀ e ∈ (tk a11 (now + gs st i) La.length La).1, e ∈ La ∧ e.1 + a11 ≤ now + gs st i := fun e he => by
      rw [t1] at he
      exact ⟨(D_perm _ La rfl).mem_iff.1 ((List.takeWhile_sublist _).subset he), by simpa using List.all_eq_true.1 (List.all_takeWhile (l := D La) (p := fun e => decide (e.1 + a11 ≤ now + gs st i))) e he⟩
    have hol : (tk a11 (now + gs st i) La.length La).1.length ≤ La.length := by
      rw [t1, ← D_len La]
      exact (List.takeWhile_sublist _).length_le
    obtain ⟨j', hin⟩ := l2 a0 a1 a2 a3 a4 a5 a6 a7 a8 a9 a10 a11 a12 a13 a14 a15 (i : Int) (st.length : Int) (now + gs st i) st ok (tk a11 (now + gs st i) La.length La).2 Lb put (tk a11 (now + gs st i) La.length La).1 hd (fun e he => hs e (hout e he).1) (by omega) (fun e he => (hout e he).2) (tk a11 (now + gs st i) La.length La).1.length 0 x (by omega) (by omega)
    have hin' : rounds lHO.step2 (0, Int.ofNat (tk a11 (now + gs st i) La.length La).1.length, (i : Int), (st.length : Int), st, now + gs st i, ok, a0, a1, a2, a3, a4, a5, a6, a7, a8, a9, a10, a11, a12, a13, a14, a15, (tk a11 (now + gs st i) La.length La).2, a0, a1, a2, a3, a4, a5, a6, a7, a8, a9, a10, a11, a12, a13, a14, a15, Lb, a0, a1, a2, a3, a4, a5, a6, a7, a8, a9, a10, a11, a12, a13, a14, a15, put, x, (tk a11 (now + gs st i) La.length La).1) = _ := hin
    have key : lHO.step3 ((i : Int), (st.length : Int), st, now, ok, a0, a1, a2, a3, a4, a5, a6, a7, a8, a9, a10, a11, a12, a13, a14, a15, La, a0, a1, a2, a3, a4, a5, a6, a7, a8, a9, a10, a11, a12, a13, a14, a15, Lb, a0, a1, a2, a3, a4, a5, a6, a7, a8, a9, a10, a11, a12, a13, a14, a15, put, x) = some (.inl (((i + 1 : Nat) : Int), (st.length : Int), st, now + gs st i, ok, a0, a1, a2, a3, a4, a5, a6, a7, a8, a9, a10, a11, a12, a13, a14, a15, (tk a11 (now + gs st i) La.length La).2, a0, a1, a2, a3, a4, a5, a6, a7, a8, a9, a10, a11, a12, a13, a14, a15, Lb, a0, a1, a2, a3, a4, a5, a6, a7, a8, a9, a10, a11, a12, a13, a14, a15, put, x ++ (tk a11 (now + gs st i) La.length La).1)) := by
      unfold lHO.step3
      dsimp only
      rw [if_pos (show (i : Int) < (st.length : Int) from i1.2), if_pos i1]
      have ew : wrap64 (now + wrap64 (gs st i)) = now + gs st i := by rw [wr (gs st i) (by omega), wr _ (by omega)]
      have ht := take_eq (now + gs st i) a0 a1 a2 a3 a4 a5 a6 a7 a8 a9 a10 a11 a12 a13 a14 a15 n0 hd La hs (by omega)
      rw [← ew] at ht
      show ((holdback_Hold_Take.f (wrap64 (now + wrap64 (gs st i)), a0, a1, a2, a3, a4, a5, a6, a7, a8, a9, a10, a11, a12, a13, a14, a15, La)).bind _) = _
      rw [ht, Option.bind_some, ew]
      dsimp only
      rw [guardEq_self]
      show ((rounds lHO.step2 (0, Int.ofNat (tk a11 (now + gs st i) La.length La).1.length, (i : Int), (st.length : Int), st, wrap64 (now + wrap64 (gs st i)), ok, a0, a1, a2, a3, a4, a5, a6, a7, a8, a9, a10, a11, a12, a13, a14, a15, (tk a11 (now + gs st i) La.length La).2, a0, a1, a2, a3, a4, a5, a6, a7, a8, a9, a10, a11, a12, a13, a14, a15, Lb, a0, a1, a2, a3, a4, a5, a6, a7, a8, a9, a10, a11, a12, a13, a14, a15, put, x, (tk a11 (now + gs st i) La.length La).1)).bind _) = _
      rw [ew, hin', Option.bind_some]
      dsimp only
      rw [due_eq a0 a1 a2 a3 a4 a5 a6 a7 a8 a9 a10 a11 a12 a13 a14 a15 n0 hd _ hs2, Option.bind_some]
      dsimp only
      rw [wr ((i : Int) + 1) (by omega), List.drop_zero]
      by_cases hz : (tk a11 (now + gs st i) La.length La).2.length = 0
      · have e1 : duB (tk a11 (now + gs st i) La.length La).2 = false := if_pos hz
        rw [e1, if_neg (by decide)]
        rfl
      · have e1 : duB (tk a11 (now + gs st i) La.length La).2 = true := if_neg hz
        have e2 : duT a11 (tk a11 (now + gs st i) La.length La).2 = (g (tk a11 (now + gs st i) La.length La).2 0).1 + a11 := if_neg hz
        have := t3 (by omega)
        rw [e1, if_pos rfl, e2, if_neg (by omega)]
        rfl
    obtain ⟨i', now', La', x', h2, h3⟩ := l3 a0 a1 a2 a3 a4 a5 a6 a7 a8 a9 a10 a11 a12 a13 a14 a15 n0 hd st ok Lb put X hst hsl hX k (i + 1) (now + gs st i) _ (x ++ (tk a11 (now + gs st i) La.length La).1) (by omega) (t4 hh) hs2 (by rw [← hx, t1, t2, List.append_assoc, List.takeWhile_append_dropWhile]) (by omega) (by omega)
    exact ⟨i', now', La', x', (rounds_next key).trans h2, h3⟩
theorem l4 (a0 a1 a2 a3 a4 a5 a6 a7 a8 a9 a10 a11 a12 a13 a14 a15 : Int) (ok : Bool) (La Lb put x y : List Ms) (hl : x.length ≤ 1000) (ho : ∀ j, 0 < j → j < x.length → lt (g x (j - 1)) (g x j)) : ∀ (k i : Nat), i + k = x.length →
    ∃ i' : Int, rounds lHO.step4 ((i : Int), (x.length : Int), ok, a0, a1, a2, a3, a4, a5, a6, a7, a8, a9, a10, a11, a12, a13, a14, a15, La, a0, a1, a2, a3, a4, a5, a6, a7, a8, a9, a10, a11, a12, a13, a14, a15, Lb, a0, a1, a2, a3, a4, a5, a6, a7, a8, a9, a10, a11, a12, a13, a14, a15, put, x, y) = some (.inl (i', (x.length : Int), ok, a0, a1, a2, a3, a4, a5, a6, a7, a8, a9, a10, a11, a12, a13, a14, a15, La, a0, a1, a2, a3, a4, a5, a6, a7, a8, a9, a10, a11, a12, a13, a14, a15, Lb, a0, a1, a2, a3, a4, a5, a6, a7, a8, a9, a10, a11, a12, a13, a14, a15, put, x, y))
  | 0, i, hk => by
    have s : lHO.step4 ((i : Int), (x.length : Int), ok, a0, a1, a2, a3, a4, a5, a6, a7, a8, a9, a10, a11, a12, a13, a14, a15, La, a0, a1, a2, a3, a4, a5, a6, a7, a8, a9, a10, a11, a12, a13, a14, a15, Lb, a0, a1, a2, a3, a4, a5, a6, a7, a8, a9, a10, a11, a12, a13, a14, a15, put, x, y) = some (.inr (.inl ((i : Int), (x.length : Int), ok, a0, a1, a2, a3, a4, a5, a6, a7, a8, a9, a10, a11, a12, a13, a14, a15, La, a0, a1, a2, a3, a4, a5, a6, a7, a8, a9, a10, a11, a12, a13, a14, a15, Lb, a0, a1, a2, a3, a4, a5, a6, a7, a8, a9, a10, a11, a12, a13, a14, a15, put, x, y))) := by
      unfold lHO.step4
      dsimp only
      rw [if_neg (by omega)]
    exact ⟨_, rounds_end s⟩
  | k + 1, i, hk => by
    have i1 : 0 ≤ (i : Int) ∧ (i : Int) < Int.ofNat x.length := ⟨by omega, by show (i : Int) < (x.length : Int); omega⟩
    have key : lHO.step4 ((i : Int), (x.length : Int), ok, a0, a1, a2, a3, a4, a5, a6, a7, a8, a9, a10, a11, a12, a13, a14, a15, La, a0, a1, a2, a3, a4, a5, a6, a7, a8, a9, a10, a11, a12, a13, a14, a15, Lb, a0, a1, a2, a3, a4, a5, a6, a7, a8, a9, a10, a11, a12, a13, a14, a15, put, x, y) = some (.inl (((i + 1 : Nat) : Int), (x.length : Int), ok, a0, a1, a2, a3, a4, a5, a6, a7, a8, a9, a10, a11, a12, a13, a14, a15, La, a0, a1, a2, a3, a4, a5, a6, a7, a8, a9, a10, a11, a12, a13, a14, a15, Lb, a0, a1, a2, a3, a4, a5, a6, a7, a8, a9, a10, a11, a12, a13, a14, a15, put, x, y)) := by
      unfold lHO.step4
      dsimp only
      rw [if_pos (show (i : Int) < (x.length : Int) from i1.2), wr ((i : Int) + 1) (by omega)]
      by_cases h0 : (i : Int) > 0
      · have e : wrap64 ((i : Int) - 1) = ((i - 1 : Nat) : Int) := by rw [wr _ (by omega)]; omega
        rw [if_pos h0, e, if_pos ⟨by omega, by show ((i - 1 : Nat) : Int) < (x.length : Int); omega⟩, if_pos i1]
        show ((cmpE (g x (i - 1)) (g x i)).bind _) = _
        rw [cmpE_eq, Option.bind_some, if_pos (ho i (by omega) (by omega)), if_neg (by decide)]
        rfl
      · rw [if_neg h0]
        rfl
    obtain ⟨i', h⟩ := l4 a0 a1 a2 a3 a4 a5 a6 a7 a8 a9 a10 a11 a12 a13 a14 a15 ok La Lb put x y hl ho k (i + 1) (by omega)
    exact ⟨i', (rounds_next key).trans h⟩
theorem great_loop : ∀ (k i : Nat) (l : List Op), i + k = l.length → l.length ≤ 60 → ∃ q, rounds vesperslaw24_Great.step0 ((i : Int), (l.length : Int), l) = some q
  | 0, i, l, hk, hl => by
    have s : vesperslaw24_Great.step0 ((i : Int), (l.length : Int), l) = some (.inr (.inl ((i : Int), (l.length : Int), l))) := by
      unfold vesperslaw24_Great.step0
      dsimp only
      rw [if_neg (by omega)]
    exact ⟨_, rounds_end s⟩
  | k + 1, i, l, hk, hl => by
    have i1 : 0 ≤ (i : Int) ∧ (i : Int) < Int.ofNat l.length := ⟨by omega, by show (i : Int) < (l.length : Int); omega⟩
    have key : vesperslaw24_Great.step0 ((i : Int), (l.length : Int), l) = if Int.ofNat (go l i).2.1.2.2.2.length > 100 then some (.inr (.inr ())) else some (.inl (((i + 1 : Nat) : Int), (l.length : Int), l)) := by
      unfold vesperslaw24_Great.step0
      dsimp only
      rw [if_pos (show (i : Int) < (l.length : Int) from i1.2), if_pos i1, wr ((i : Int) + 1) (by omega)]
      rfl
    by_cases h : Int.ofNat (go l i).2.1.2.2.2.length > 100
    · rw [if_pos h] at key
      exact ⟨_, rounds_end key⟩
    · rw [if_neg h] at key
      obtain ⟨q, e⟩ := great_loop k (i + 1) l (by omega) hl
      exact ⟨q, (rounds_next key).trans e⟩
theorem great_ok (l : List Op) : ∃ r : Int, vesperslaw24_Great.f l = some r ∧ (¬ r > 0 → l.length ≤ 60) := by
  unfold vesperslaw24_Great.f
  by_cases h : Int.ofNat l.length > 60
  · rw [if_pos h]
    exact ⟨1, rfl, fun q => absurd (by decide) q⟩
  · have hl : l.length ≤ 60 := by
      have : ¬ (l.length : Int) > 60 := h
      omega
    rw [if_neg h, guardEq_self]
    obtain ⟨q, e⟩ := great_loop l.length 0 l (by omega) hl
    have e' : rounds vesperslaw24_Great.step0 (0, Int.ofNat l.length, l) = _ := e
    rw [e', Option.bind_some]
    cases q with
    | inl _ => exact ⟨0, rfl, fun _ => hl⟩
    | inr _ => exact ⟨1, rfl, fun _ => hl⟩
theorem apart_eq : ∀ {l : List Ms}, (l.Pairwise fun a b => ¬ sk a b) → ∀ a ∈ l, ∀ b ∈ l, sk a b → a = b
  | [], _, a, ha, b, hb, hs => by cases ha
  | x :: l, h, a, ha, b, hb, hs => by
    rcases List.mem_cons.1 ha with rfl | ha'
    · rcases List.mem_cons.1 hb with rfl | hb'
      · rfl
      · exact absurd hs (List.rel_of_pairwise_cons h hb')
    · rcases List.mem_cons.1 hb with rfl | hb'
      · exact absurd (sk_symm hs) (List.rel_of_pairwise_cons h ha')
      · exact apart_eq h.of_cons a ha' b hb' hs
theorem takeWhile_every {α : Type} {p : α → Bool} : ∀ {l : List α}, (∀ e ∈ l, p e = true) → l.takeWhile p = l ∧ l.dropWhile p = []
  | [], _ => ⟨rfl, rfl⟩
  | x :: l, h => by
    obtain ⟨h1, h2⟩ := takeWhile_every (l := l) fun e he => h e (List.mem_cons_of_mem _ he)
    rw [List.takeWhile_cons, List.dropWhile_cons, h x List.mem_cons_self]
    exact ⟨by rw [if_pos rfl, h1], by rw [if_pos rfl, h2]⟩
theorem tk_every (dl : Int) (hd : 0 ≤ dl ∧ dl ≤ 1073741824) (l : List Ms) (hs : St l) : tk dl 1099511627776 l.length l = (D l, []) := by
  obtain ⟨t1, t2, _⟩ := tk_D dl 1099511627776 l.length l (Nat.le_refl _)
  obtain ⟨h1, h2⟩ := takeWhile_every (l := D l) (p := fun e => decide (e.1 + dl ≤ 1099511627776)) fun e he => by
    have := hs e ((D_perm _ l rfl).mem_iff.1 he)
    exact decide_eq_true (by omega)
  rw [h1] at t1
  rw [h2] at t2
  have h3 : (tk dl 1099511627776 l.length l).2 = [] := by
    apply List.eq_nil_of_length_eq_zero
    rw [← D_len, t2]
    rfl
  exact Prod.ext t1 h3
theorem proved : lHO.Pure := by
  intro a0 a1 a2 a3 a4 a5 a6 a7 a8 a9 a10 a11 a12 a13 a14 a15 l st w0 w1 w2 w3 w4 w5 w6 w7 w8 w9 w10 w11 w12 w13 w14 w15 wl wst
  unfold lHO.f
  rw [alive_ok, Option.bind_some]
  obtain ⟨r, hr, hr2⟩ := great_ok l
  rw [hr, Option.bind_some]
  by_cases hg : r > 0
  · rw [if_pos hg]
  · rw [if_neg hg]
    have hlen := hr2 hg
    by_cases hs : Int.ofNat st.length > 30
    · rw [if_pos hs]
    · have hsl : st.length ≤ 30 := by
        have : ¬ (st.length : Int) > 30 := hs
        omega
      rw [if_neg hs, check_eq]
      by_cases hF : FS a0 a1 a2 a3 a4 a5 a6 a7 a8 a9 a10 a11 a12 a13 a14 a15 = 0
      · rw [if_pos hF, Option.bind_some, if_neg (by decide), if_neg (by decide), Option.bind_some, if_neg (by decide), Option.bind_some, if_neg (by decide), guardEq_self]
        have hp0 := pln a0 a1 a2 a3 a4 a5 a6 a7 a8 a9 a10 a11 a12 a13 a14 a15 hF
        have n0 : ¬ a0 = 0 := by have := hp0.n; omega
        have hd : 0 ≤ a11 ∧ a11 ≤ 1073741824 := by have := hp0.r; have := hp0.d; omega
        have hnil : Heap [] := fun k hk hl _ => absurd hl (by simp)
        obtain ⟨i1, La, put, e0, hp, hpl⟩ := l0 a0 a1 a2 a3 a4 a5 a6 a7 a8 a9 a10 a11 a12 a13 a14 a15 hF l.length 0 l st true [] [] [] (by omega) hlen ⟨hnil, List.Perm.refl _, List.Pairwise.nil, fun e he => by cases he⟩ (by simp)
        have e0' : rounds lHO.step0 (0, Int.ofNat l.length, l, st, true, a0, a1, a2, a3, a4, a5, a6, a7, a8, a9, a10, a11, a12, a13, a14, a15, [], a0, a1, a2, a3, a4, a5, a6, a7, a8, a9, a10, a11, a12, a13, a14, a15, [], a0, a1, a2, a3, a4, a5, a6, a7, a8, a9, a10, a11, a12, a13, a14, a15, []) = _ := e0
        rw [e0', Option.bind_some]
        dsimp only
        have hpll : put.length ≤ 60 := by rw [← hp.perm.length_eq]; exact hpl
        obtain ⟨i2, Lb, e1, hb, hbp⟩ := l1 a0 a1 a2 a3 a4 a5 a6 a7 a8 a9 a10 a11 a12 a13 a14 a15 hF st true La put hpll hp.apart hp.ok put.length [] (Nat.le_refl _) hnil (by rw [List.drop_length])
        have e1' : rounds lHO.step1 (wrap64 (Int.ofNat put.length - 1), st, true, a0, a1, a2, a3, a4, a5, a6, a7, a8, a9, a10, a11, a12, a13, a14, a15, La, a0, a1, a2, a3, a4, a5, a6, a7, a8, a9, a10, a11, a12, a13, a14, a15, [], a0, a1, a2, a3, a4, a5, a6, a7, a8, a9, a10, a11, a12, a13, a14, a15, put) = some (.inl (i2, st, true, a0, a1, a2, a3, a4, a5, a6, a7, a8, a9, a10, a11, a12, a13, a14, a15, La, a0, a1, a2, a3, a4, a5, a6, a7, a8, a9, a10, a11, a12, a13, a14, a15, Lb, a0, a1, a2, a3, a4, a5, a6, a7, a8, a9, a10, a11, a12, a13, a14, a15, put)) := by
          rw [wr (Int.ofNat put.length - 1) (by show _ ≤ (put.length : Int) - 1 ∧ (put.length : Int) - 1 ≤ _; omega)]
          exact e1
        rw [guardEq_self, e1', Option.bind_some]
        dsimp only
        have hstp : ∀ e ∈ put, 0 ≤ e.1 ∧ e.1 ≤ 4294967296 := fun e he => (code_zero _ _ _ _ _ _ _ (hp.ok e he)).2.2
        have sLa : St La := fun e he => hstp e (hp.perm.mem_iff.1 he)
        have sLb : St Lb := fun e he => hstp e (hbp.mem_iff.1 he)
        have hst : ∀ s ∈ st, 0 ≤ s ∧ s ≤ 65535 := fun x hx => by
          have h := wst x hx
          have a : IntKind.u16.min = 0 := rfl
          have b : IntKind.u16.max = 65535 := rfl
          simp [Lit.wf] at h
          omega
        obtain ⟨i3, now', La', x', e3, hh3, hs3, hx3⟩ := l3 a0 a1 a2 a3 a4 a5 a6 a7 a8 a9 a10 a11 a12 a13 a14 a15 n0 hd st true Lb put (D La) hst hsl (by rw [D_len]; exact hpl) st.length 0 0 La [] (by omega) hp.heap sLa rfl (by omega) (by omega)
        have e3' : rounds lHO.step3 (0, Int.ofNat st.length, st, 0, true, a0, a1, a2, a3, a4, a5, a6, a7, a8, a9, a10, a11, a12, a13, a14, a15, La, a0, a1, a2, a3, a4, a5, a6, a7, a8, a9, a10, a11, a12, a13, a14, a15, Lb, a0, a1, a2, a3, a4, a5, a6, a7, a8, a9, a10, a11, a12, a13, a14, a15, put, []) = _ := e3
        rw [guardEq_self, e3', Option.bind_some]
        dsimp only
        have hxl : x'.length + La'.length = La.length := by
          have := congrArg List.length hx3
          rwa [List.length_append, D_len, D_len] at this
        have hbl : Lb.length ≤ 60 := by rw [hbp.length_eq]; exact hpll
        rw [take_eq _ a0 a1 a2 a3 a4 a5 a6 a7 a8 a9 a10 a11 a12 a13 a14 a15 n0 hd La' hs3 (by omega), Option.bind_some, tk_every a11 hd La' hs3]
        dsimp only
        rw [if_pos (by rw [D_len]; show (x'.length : Int) + (La'.length : Int) ≤ _; omega), take_eq _ a0 a1 a2 a3 a4 a5 a6 a7 a8 a9 a10 a11 a12 a13 a14 a15 n0 hd Lb sLb (by omega), Option.bind_some, tk_every a11 hd Lb sLb]
        dsimp only
        have hperm : (D La).Perm (D Lb) := (D_perm _ La rfl).trans (hp.perm.trans (hbp.symm.trans (D_perm _ Lb rfl).symm))
        have input : ∀ a ∈ D La, a ∈ put := fun a ha => hp.perm.mem_iff.1 ((D_perm _ La rfl).mem_iff.1 ha)
        have heq : D La = D Lb := uniq_srt _ _ hperm (D_sorted _ La rfl hp.heap) (D_sorted _ Lb rfl hb) fun a ha b hb2 h1 h2 => apart_eq hp.apart a (input a ha) b (input b hb2) ((sk_iff a b).2 ⟨h1, h2⟩)
        have hap : (D La).Pairwise fun a b => ¬ sk a b := (List.Perm.pairwise_iff (fun {x y} h q => h (sk_symm q)) ((D_perm _ La rfl).trans hp.perm)).2 hp.apart
        have hsrt := D_sorted _ La rfl hp.heap
        have hdl : (D La).length ≤ 60 := by rw [D_len]; exact hpl
        obtain ⟨i4, e4⟩ := l4 a0 a1 a2 a3 a4 a5 a6 a7 a8 a9 a10 a11 a12 a13 a14 a15 true [] [] put (D La) (D La) (by omega) (fun j h0 hj => by
          rw [gl_eq (show j - 1 < (D La).length by omega), gl_eq hj]
          have k1 := List.pairwise_iff_getElem.1 hap (j - 1) j (by omega) hj (by omega)
          have k2 := List.pairwise_iff_getElem.1 hsrt (j - 1) j (by omega) hj (by omega)
          rcases Decidable.em (lt (D La)[j - 1] (D La)[j]) with h | h
          · exact h
          · exact absurd ((sk_iff _ _).2 ⟨h, k2⟩) k1) (D La).length 0 (by omega)
        have e4' : rounds lHO.step4 (0, Int.ofNat x'.length + Int.ofNat (D La').length, true, a0, a1, a2, a3, a4, a5, a6, a7, a8, a9, a10, a11, a12, a13, a14, a15, [], a0, a1, a2, a3, a4, a5, a6, a7, a8, a9, a10, a11, a12, a13, a14, a15, [], a0, a1, a2, a3, a4, a5, a6, a7, a8, a9, a10, a11, a12, a13, a14, a15, put, x' ++ D La', D Lb) = some (.inl (i4, ((D La).length : Int), true, a0, a1, a2, a3, a4, a5, a6, a7, a8, a9, a10, a11, a12, a13, a14, a15, [], a0, a1, a2, a3, a4, a5, a6, a7, a8, a9, a10, a11, a12, a13, a14, a15, [], a0, a1, a2, a3, a4, a5, a6, a7, a8, a9, a10, a11, a12, a13, a14, a15, put, D La, D La)) := by
          rw [show Int.ofNat x'.length + Int.ofNat (D La').length = ((D La).length : Int) by
            rw [D_len, D_len]
            show (x'.length : Int) + (La'.length : Int) = _
            omega, hx3, ← heq]
          exact e4
        rw [guardEq_self, e4', Option.bind_some]
        dsimp only
        rw [if_pos rfl, same_refl _ (by omega), Option.bind_some, if_pos rfl, if_pos (by rw [D_len, hp.perm.length_eq]), len_eq a0 a1 a2 a3 a4 a5 a6 a7 a8 a9 a10 a11 a12 a13 a14 a15 n0, Option.bind_some]
        rfl
      · rw [if_neg hF, Option.bind_some, if_pos (by decide)]
end LHoldbackOrder
end Go.Proofs.Ytaoplfmaiclfkaa.Pure
