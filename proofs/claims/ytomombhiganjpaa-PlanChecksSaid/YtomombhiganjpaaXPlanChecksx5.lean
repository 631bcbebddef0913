-- Written by xprint.py (this session's program).
import Derived.Test.YtomombhiganjpaaXPlanChecksx0
import Derived.Test.YtomombhiganjpaaXPlanChecksx1
import Derived.Test.YtomombhiganjpaaXPlanChecksx3
import Derived.Test.YtomombhiganjpaaXPlanChecksx4
import Derived.Test.YtomombhiganjpaaXIter
namespace Go.Proofs.Ytomombhiganjpaa.XPlanChecks
open Go.RowKit Go.Proofs.YtomombhiganjpaaW.PrintWords Go.Proofs.YtomombhiganjpaaW.PrintLast Go.Proofs.Ytomombhiganjpaa.XWords Go.Proofs.Ytomombhiganjpaa.XOpen
attribute [local go_sem] max2_int min2_int max_two min_two max_three min_three max_four min_four
set_option linter.unusedVariables false
set_option linter.unusedSimpArgs false

-- HAND
/-! ### plan_Fails: function 10 -/
-- IMPORT Derived.Test.YtomombhiganjpaaXIter
attribute [local go_sem] Oper.semAt_some
section
open Go.Shelf Go.Proofs.Ytomombhiganjpaa.XIter
variable (a0_0 a0_1 a0_2 a0_3 a0_4 a0_5 a0_6 a0_7 a0_8 a0_9 a0_10 a0_11 a0_12 a0_13 a0_14 a0_15 : Int)
/-- The conditions, as they are asked. -/
def plan_Fails.conds : List (Option Bool) := [plan_look_nodes.f a0_0 a0_1 a0_2 a0_3 a0_4 a0_5 a0_6 a0_7 a0_8 a0_9 a0_10 a0_11 a0_12 a0_13 a0_14 a0_15, plan_look_air.f a0_0 a0_1 a0_2 a0_3 a0_4 a0_5 a0_6 a0_7 a0_8 a0_9 a0_10 a0_11 a0_12 a0_13 a0_14 a0_15, plan_look_slot.f a0_0 a0_1 a0_2 a0_3 a0_4 a0_5 a0_6 a0_7 a0_8 a0_9 a0_10 a0_11 a0_12 a0_13 a0_14 a0_15,
  plan_look_pi.f a0_0 a0_1 a0_2 a0_3 a0_4 a0_5 a0_6 a0_7 a0_8 a0_9 a0_10 a0_11 a0_12 a0_13 a0_14 a0_15, plan_look_window.f a0_0 a0_1 a0_2 a0_3 a0_4 a0_5 a0_6 a0_7 a0_8 a0_9 a0_10 a0_11 a0_12 a0_13 a0_14 a0_15, plan_look_limit.f a0_0 a0_1 a0_2 a0_3 a0_4 a0_5 a0_6 a0_7 a0_8 a0_9 a0_10 a0_11 a0_12 a0_13 a0_14 a0_15,
  plan_look_sends.f a0_0 a0_1 a0_2 a0_3 a0_4 a0_5 a0_6 a0_7 a0_8 a0_9 a0_10 a0_11 a0_12 a0_13 a0_14 a0_15, plan_look_fits.f a0_0 a0_1 a0_2 a0_3 a0_4 a0_5 a0_6 a0_7 a0_8 a0_9 a0_10 a0_11 a0_12 a0_13 a0_14 a0_15, plan_look_queue.f a0_0 a0_1 a0_2 a0_3 a0_4 a0_5 a0_6 a0_7 a0_8 a0_9 a0_10 a0_11 a0_12 a0_13 a0_14 a0_15,
  plan_look_delta.f a0_0 a0_1 a0_2 a0_3 a0_4 a0_5 a0_6 a0_7 a0_8 a0_9 a0_10 a0_11 a0_12 a0_13 a0_14 a0_15, plan_look_horizon.f a0_0 a0_1 a0_2 a0_3 a0_4 a0_5 a0_6 a0_7 a0_8 a0_9 a0_10 a0_11 a0_12 a0_13 a0_14 a0_15]
def plan_Fails.go : Int → List (Option Bool) → Option Int
  | _, [] => some 0
  | i, c :: r => c.bind fun t => if t = true then plan_Fails.go (i + 1) r else some i
def plan_Fails.f : Option Int := plan_Fails.go 1 (plan_Fails.conds a0_0 a0_1 a0_2 a0_3 a0_4 a0_5 a0_6 a0_7 a0_8 a0_9 a0_10 a0_11 a0_12 a0_13 a0_14 a0_15)
/-- The functions' numbers. -/
def plan_Fails.nums : List Nat := [53, 54, 55, 57, 58, 59, 60, 61, 50, 62, 63]
abbrev plan_Fails.look : Value := .agg #[.int .i64 a0_0, .int .i64 a0_1, .int .i64 a0_2, .int .i64 a0_3, .int .i64 a0_4, .int .i64 a0_5, .int .i64 a0_6, .int .i64 a0_7, .int .i64 a0_8, .int .i64 a0_9, .int .i64 a0_10, .int .i64 a0_11, .int .i64 a0_12, .int .i64 a0_13, .int .i64 a0_14, .int .i64 a0_15]
theorem plan_Fails.cond_any (i : Nat) (hi : i < 11) (r : Bool) (h : (plan_Fails.conds a0_0 a0_1 a0_2 a0_3 a0_4 a0_5 a0_6 a0_7 a0_8 a0_9 a0_10 a0_11 a0_12 a0_13 a0_14 a0_15)[i]? = some (some r)) (w : World) :
    Calls Try.prog ((plan_Fails.nums)[i]?.getD 0) #[plan_Fails.look a0_0 a0_1 a0_2 a0_3 a0_4 a0_5 a0_6 a0_7 a0_8 a0_9 a0_10 a0_11 a0_12 a0_13 a0_14 a0_15] w fun e w' => e = .returned (.bool r) ∧ Below w.heap.size w w' := by
  match i, hi with
  | 0, _ => exact plan_look_nodes.calls _ _ _ _ _ _ _ _ _ _ _ _ _ _ _ _ r w (Option.some.inj h)
  | 1, _ => exact plan_look_air.calls _ _ _ _ _ _ _ _ _ _ _ _ _ _ _ _ r w (Option.some.inj h)
  | 2, _ => exact plan_look_slot.calls _ _ _ _ _ _ _ _ _ _ _ _ _ _ _ _ r w (Option.some.inj h)
  | 3, _ => exact plan_look_pi.calls _ _ _ _ _ _ _ _ _ _ _ _ _ _ _ _ r w (Option.some.inj h)
  | 4, _ => exact plan_look_window.calls _ _ _ _ _ _ _ _ _ _ _ _ _ _ _ _ r w (Option.some.inj h)
  | 5, _ => exact plan_look_limit.calls _ _ _ _ _ _ _ _ _ _ _ _ _ _ _ _ r w (Option.some.inj h)
  | 6, _ => exact plan_look_sends.calls _ _ _ _ _ _ _ _ _ _ _ _ _ _ _ _ r w (Option.some.inj h)
  | 7, _ => exact plan_look_fits.calls _ _ _ _ _ _ _ _ _ _ _ _ _ _ _ _ r w (Option.some.inj h)
  | 8, _ => exact plan_look_queue.calls _ _ _ _ _ _ _ _ _ _ _ _ _ _ _ _ r w (Option.some.inj h)
  | 9, _ => exact plan_look_delta.calls _ _ _ _ _ _ _ _ _ _ _ _ _ _ _ _ r w (Option.some.inj h)
  | 10, _ => exact plan_look_horizon.calls _ _ _ _ _ _ _ _ _ _ _ _ _ _ _ _ r w (Option.some.inj h)
  | n + 11, h => exact absurd h (by omega)
end
set_option maxHeartbeats 1000000 in
set_option maxRecDepth 100000 in
/-- conditions: it boxes what it is asked of; the function value captures the box. -/
theorem plan_Fails.maker (a0_0 a0_1 a0_2 a0_3 a0_4 a0_5 a0_6 a0_7 a0_8 a0_9 a0_10 a0_11 a0_12 a0_13 a0_14 a0_15 : Int) (w : World) :
    Calls Try.prog 48 #[plan_Fails.look a0_0 a0_1 a0_2 a0_3 a0_4 a0_5 a0_6 a0_7 a0_8 a0_9 a0_10 a0_11 a0_12 a0_13 a0_14 a0_15] w fun e w' =>
      e = .returned (.func (.func 56) #[] #[.pointer (some ⟨w.heap.size, 0, none⟩)]) ∧ w' = w.alloc (.cells #[.int .i64 a0_0, .int .i64 a0_1, .int .i64 a0_2, .int .i64 a0_3, .int .i64 a0_4, .int .i64 a0_5, .int .i64 a0_6, .int .i64 a0_7, .int .i64 a0_8, .int .i64 a0_9, .int .i64 a0_10, .int .i64 a0_11, .int .i64 a0_12, .int .i64 a0_13, .int .i64 a0_14, .int .i64 a0_15] 43) := by
  have hu := Try.underlying43
  go_enter Try.func48, Try.ntmps48
  go_wp2
  go_ret
  exact ⟨rfl, rfl⟩
/-- What the iterator hands on in its round i (from 0 on). -/
abbrev plan_Fails.fv (L : Array Value) (i : Nat) : Value := .func (.func ((plan_Fails.nums)[i]?.getD 0)) #[.agg L] #[]
abbrev plan_Fails.all (L : Array Value) : Array Value := #[.nilFunc, plan_Fails.fv L 0, plan_Fails.fv L 1, plan_Fails.fv L 2, plan_Fails.fv L 3, plan_Fails.fv L 4, plan_Fails.fv L 5, plan_Fails.fv L 6, plan_Fails.fv L 7, plan_Fails.fv L 8, plan_Fails.fv L 9, plan_Fails.fv L 10]
theorem plan_Fails.all_get (L : Array Value) (k : Nat) (hk : k < 11) : (plan_Fails.all L)[k + 1]? = some (plan_Fails.fv L k) := by
  match k, hk with
  | 0, _ | 1, _ | 2, _ | 3, _ | 4, _ | 5, _ | 6, _ | 7, _ | 8, _ | 9, _ | 10, _ => rfl
  | n + 11, h => exact absurd h (by omega)
open Go.Shelf Go.Proofs.Ytomombhiganjpaa.XIter in
set_option maxHeartbeats 1000000 in
set_option maxRecDepth 100000 in
/-- The iterator: it hands on the conditions, one by one. -/
theorem plan_Fails.iter (F : Fence) (n : Nat) (hf : F.fn 56) (hro : F.round = none) (hn : 1 ≤ n) (l Bn : Nat) (L : Array Value) (hL : Hid (L.size = 16)) (J Jx : List (Fin 11) → World → Prop)
    (hY : ∀ pre (x : Fin 11) W, J pre W → pre = firsts 11 x.val → YieldAt F (n - 1) Try.prog l #[.int .i64 ((x.val : Int) + 1), plan_Fails.fv L x.val] W fun e W' =>
      (e = .returned (.bool true) ∧ J (pre ++ [x]) W' ∧ CellsKept W W') ∨ (e = .returned (.bool false) ∧ Jx (pre ++ [x]) W'))
    (W : World) (hB : W.heap[Bn]? = some (.cells L 43 (0, 0))) (hJ : AbidesFrom W.heap.size J) (h0 : J [] W) :
    CallsIn F n Try.prog 56 #[.func (.yield l) #[] #[], .pointer (some ⟨Bn, 0, none⟩)] W fun e W' => (∃ v, e = .returned v) ∧
      ((∃ ys, ys = List.finRange 11 ∧ J ys W') ∨ (∃ pre, (∃ k, k ≤ 11 ∧ pre = firsts 11 k) ∧ Jx pre W')) := by
  have hu := Try.underlying43
  have hi : (Try.prog.info? 43).map (·.size) = some L.size := by rw [hL.out]; kernel_rfl
  have HI := Go.Lib.hid hi
  clear hi
  have hJ1 : J [] (W.alloc (.cells (plan_Fails.all L) 39)) := hJ _ _ _ none h0 (World.grownBy_alloc W _ none) (fun r e => by cases e)
  refine callsIn_of_wp Try.func56 rfl hf ?_ hro
  simp only [Try.ntmps56, List.size_toArray, List.length_cons, List.length_nil, Nat.reduceAdd, Nat.reduceSub, Array.replicate_succ, Array.replicate_zero, List.push_toArray, List.append_toArray, List.nil_append, List.cons_append]
  gi_wp2_with (refine wpListIn_load_row rfl 43 (.tmp 1) rfl Bn rfl 43 L (0, 0) _ hB hu rfl HI.out ?_)
  have hnew : (W.alloc (.cells (plan_Fails.all L) 39)).heap[W.heap.size]? = some (.cells (plan_Fails.all L) 39 (0, 0)) := World.alloc_heap_new W _
  gi_loopw [4] (fun i wr => ∃ k : Nat, k ≤ 11 ∧ i = .int .i64 ((k : Int) + 1) ∧ J (firsts 11 k) wr ∧ CellsKept (W.alloc (.cells (plan_Fails.all L) 39)) wr) (fun i _ => 12 - (intOf i).toNat)
  case atStart => exact ⟨0, by omega, rfl, hJ1, CellsKept.refl _⟩
  case round =>
    obtain ⟨k, hk, rfl, hJs, hkept⟩ := hrel
    have hblk := hkept.cell hnew
    clear hnew
    by_cases hlt : k < 11
    · have hcx : wr.cell? ⟨W.heap.size, k + 1, none⟩ = some (plan_Fails.fv L k) := (cell_of_row wr W.heap.size (k + 1) _ _ _ hblk).trans (plan_Fails.all_get L k hlt)
      obtain ⟨fn, tmps, assign, body, hy, hR⟩ := hY _ ⟨k, hlt⟩ wr hJs rfl
      dsimp only at hy
      generalize plan_Fails.fv L k = v at hcx hy
      clear hblk
      gi_wp2
      refine hR.mono ?_
      rintro e W3 (⟨rfl, hJ3, hk3⟩ | ⟨rfl, hJx3⟩)
      · gi_wp2
        go_roundw
        case rel => exact ⟨k + 1, by omega, by simp, by rw [firsts_succ hlt]; exact hJ3, hkept.trans hk3⟩
        case measure => simp [intOf]; omega
      · gi_wp2
        refine bodyPost_ret (results_none rfl _ _ _) rfl ?_
        exact ⟨⟨_, rfl⟩, .inr ⟨_, ⟨k + 1, by omega, (firsts_succ hlt).symm⟩, hJx3⟩⟩
    · obtain rfl : k = 11 := by omega
      gi_wp2
      go_end0
      exact ⟨⟨_, rfl⟩, .inl ⟨_, rfl, hJs⟩⟩
open Go.Shelf Go.Proofs.Ytomombhiganjpaa.XIter in
theorem plan_Fails.stops (F : Fence) (n : Nat) (hf : F.fn 56) (hro : F.round = none) (hn : 1 ≤ n) (Bn : Nat) (L : Array Value) (hL : Hid (L.size = 16)) (w : World) (hB : w.heap[Bn]? = some (.cells L 43 (0, 0))) :
    SeqNext F n Try.prog 56 #[.pointer (some ⟨Bn, 0, none⟩)] (fun x : Fin 11 => #[.int .i64 ((x.val : Int) + 1), plan_Fails.fv L x.val]) (fun pre x => pre = firsts 11 x.val) (fun ys => ys = List.finRange 11) (fun pre => ∃ k, k ≤ 11 ∧ pre = firsts 11 k) w :=
  fun l J Jx W hW hJ hY h0 => plan_Fails.iter F n hf hro hn l Bn L hL J Jx hY W ((hW.block Bn (Array.getElem?_eq_some_iff.1 hB).1).trans hB) hJ h0
/-- What the first condition that fails is. -/
theorem plan_Fails.go_tells : ∀ (cs : List (Option Bool)) (i r : Int), plan_Fails.go i cs = some r →
    (∀ j : Nat, j < cs.length → (∀ q : Nat, q < j → cs[q]? = some (some true)) → ∃ b, cs[j]? = some (some b)) ∧ ((∀ j : Nat, j < cs.length → cs[j]? = some (some true)) → r = 0) ∧ (∀ j : Nat, (∀ q : Nat, q < j → cs[q]? = some (some true)) → cs[j]? = some (some false) → r = i + j)
  | [], i, r, h => by
    simp [plan_Fails.go] at h
    exact ⟨fun j hj => by simp at hj, fun _ => h.symm, fun j _ hj => by simp at hj⟩
  | c :: cs, i, r, h => by
    simp only [plan_Fails.go] at h
    obtain ⟨b, rfl, h'⟩ := Option.bind_eq_some_iff.1 h
    clear h
    cases b with
    | true =>
      rw [if_pos rfl] at h'
      obtain ⟨h1, h2, h3⟩ := plan_Fails.go_tells cs (i + 1) r h'
      refine ⟨fun j hj hq => ?_, fun hall => h2 fun j hj => by simpa using hall (j + 1) (by simpa using hj), fun j hq hj => ?_⟩
      · cases j with
        | zero => exact ⟨true, rfl⟩
        | succ j => simpa using h1 j (by simpa using hj) fun q hlt => by simpa using hq (q + 1) (by omega)
      · cases j with
        | zero => simp at hj
        | succ j =>
          have := h3 j (fun q hlt => by simpa using hq (q + 1) (by omega)) (by simpa using hj)
          omega
    | false =>
      rw [if_neg (by decide)] at h'
      obtain rfl := Option.some.inj h'
      refine ⟨fun j hj hq => ?_, fun hall => ?_, fun j hq hj => ?_⟩
      · cases j with
        | zero => exact ⟨false, rfl⟩
        | succ j => have := hq 0 (by omega); simp at this
      · have := hall 0 (by simp); simp at this
      · cases j with
        | zero => simp
        | succ j => have := hq 0 (by omega); simp at this
open Go.Shelf in
theorem plan_Fails.enters (i : Nat) (hi : i < 11) : ∀ args w, (callFunc ((plan_Fails.nums)[i]?.getD 0) args).run Try.prog w = .ok (.enter ((plan_Fails.nums)[i]?.getD 0) args) w := by
  match i, hi with
  | 0, _ => exact enters_of Try.func53 (by kernel_rfl) rfl
  | 1, _ => exact enters_of Try.func54 (by kernel_rfl) rfl
  | 2, _ => exact enters_of Try.func55 (by kernel_rfl) rfl
  | 3, _ => exact enters_of Try.func57 (by kernel_rfl) rfl
  | 4, _ => exact enters_of Try.func58 (by kernel_rfl) rfl
  | 5, _ => exact enters_of Try.func59 (by kernel_rfl) rfl
  | 6, _ => exact enters_of Try.func60 (by kernel_rfl) rfl
  | 7, _ => exact enters_of Try.func61 (by kernel_rfl) rfl
  | 8, _ => exact enters_of Try.func50 (by kernel_rfl) rfl
  | 9, _ => exact enters_of Try.func62 (by kernel_rfl) rfl
  | 10, _ => exact enters_of Try.func63 (by kernel_rfl) rfl
  | n + 11, h => exact absurd h (by omega)
open Go.Shelf Go.Proofs.Ytomombhiganjpaa.XIter in
set_option maxHeartbeats 1000000 in
set_option maxRecDepth 100000 in
theorem plan_Fails.calls (a0_0 a0_1 a0_2 a0_3 a0_4 a0_5 a0_6 a0_7 a0_8 a0_9 a0_10 a0_11 a0_12 a0_13 a0_14 a0_15 : Int) (r : Int) (w : World) (h : plan_Fails.f a0_0 a0_1 a0_2 a0_3 a0_4 a0_5 a0_6 a0_7 a0_8 a0_9 a0_10 a0_11 a0_12 a0_13 a0_14 a0_15 = some r) :
    Calls Try.prog 10 #[.agg #[.int .i64 a0_0, .int .i64 a0_1, .int .i64 a0_2, .int .i64 a0_3, .int .i64 a0_4, .int .i64 a0_5, .int .i64 a0_6, .int .i64 a0_7, .int .i64 a0_8, .int .i64 a0_9, .int .i64 a0_10, .int .i64 a0_11, .int .i64 a0_12, .int .i64 a0_13, .int .i64 a0_14, .int .i64 a0_15]] w fun e w' => e = .returned (.int .i64 r) ∧ Below w.heap.size w w' := by
  have hcond := plan_Fails.cond_any a0_0 a0_1 a0_2 a0_3 a0_4 a0_5 a0_6 a0_7 a0_8 a0_9 a0_10 a0_11 a0_12 a0_13 a0_14 a0_15
  have hmk := plan_Fails.maker a0_0 a0_1 a0_2 a0_3 a0_4 a0_5 a0_6 a0_7 a0_8 a0_9 a0_10 a0_11 a0_12 a0_13 a0_14 a0_15
  have hgo := plan_Fails.go_tells _ _ _ h
  clear h
  have hlen : (plan_Fails.conds a0_0 a0_1 a0_2 a0_3 a0_4 a0_5 a0_6 a0_7 a0_8 a0_9 a0_10 a0_11 a0_12 a0_13 a0_14 a0_15).length = 11 := rfl
  generalize plan_Fails.conds a0_0 a0_1 a0_2 a0_3 a0_4 a0_5 a0_6 a0_7 a0_8 a0_9 a0_10 a0_11 a0_12 a0_13 a0_14 a0_15 = cs at *
  simp only [plan_Fails.look] at hcond hmk
  have hu := Try.underlying43
  have hup := Try.underlying23
  have Hgo := Go.Lib.hid hgo
  have Hlen := Go.Lib.hid hlen
  clear hgo hlen
  refine (callsIn_wide (n := 9)).1 ?_
  refine callsIn_of_wp_marks Try.func10 rfl trivial ?_ rfl
  simp only [Try.ntmps10, List.size_toArray, List.length_cons, List.length_nil, Nat.reduceAdd, Nat.reduceSub, Array.replicate_succ, Array.replicate_zero, List.push_toArray, List.append_toArray, List.nil_append, List.cons_append]
  refine wpIn_wide.2 ?_
  go_wp2
  go_step3
  go_wp2
  go_step3
  go_wp2_with (first | (refine wpList_load_row rfl 23 (.tmp 1) rfl w.heap.size rfl 23 #[.int .i64 a0_0, .int .i64 a0_1, .int .i64 a0_2, .int .i64 a0_3, .int .i64 a0_4, .int .i64 a0_5, .int .i64 a0_6, .int .i64 a0_7, .int .i64 a0_8, .int .i64 a0_9, .int .i64 a0_10, .int .i64 a0_11, .int .i64 a0_12, .int .i64 a0_13, .int .i64 a0_14, .int .i64 a0_15] (0, 0) _ (by simp) hup rfl (by kernel_rfl) ?_) | (go_at_call 48; refine (hmk _).mono ?_; rintro e w' ⟨rfl, rfl⟩))
  clear hmk hu hup
  obtain ⟨L, hLe⟩ : ∃ L : Array Value, #[.int .i64 a0_0, .int .i64 a0_1, .int .i64 a0_2, .int .i64 a0_3, .int .i64 a0_4, .int .i64 a0_5, .int .i64 a0_6, .int .i64 a0_7, .int .i64 a0_8, .int .i64 a0_9, .int .i64 a0_10, .int .i64 a0_11, .int .i64 a0_12, .int .i64 a0_13, .int .i64 a0_14, .int .i64 a0_15] = L := ⟨_, rfl⟩
  have hLs : Hid (L.size = 16) := by rw [← hLe]; exact rfl
  simp only [hLe] at hcond ⊢
  clear hLe
  have hbel : Below w.heap.size w (((w.alloc (.cells L 23)).alloc (.cells #[.int .i64 0] 3)).alloc (.cells L 43)) := (((Below.refl _ w).alloc (Nat.le_refl _) _).alloc (by simp) _).alloc (by simp; omega) _
  have bR := Boxed.new (w.alloc (.cells L 23)) 3 (.int .i64 0)
  have bR2 := bR.alloc (.cells L 43)
  rw [World.size_alloc] at bR2
  have bN := World.alloc_heap_new ((w.alloc (.cells L 23)).alloc (.cells #[.int .i64 0] 3)) (.cells L 43)
  rw [World.size_alloc, World.size_alloc] at bN
  have hsz : (((w.alloc (.cells L 23)).alloc (.cells #[.int .i64 0] 3)).alloc (.cells L 43)).heap.size = w.heap.size + 3 := by simp
  generalize ((w.alloc (.cells L 23)).alloc (.cells #[.int .i64 0] 3)).alloc (.cells L 43) = W0 at *
  clear bR
  refine (wpIn_wide (n := 9)).1 (range_next (F := Fence.wide) rfl (by omega) (gf := 56) (lb := #[.pointer (some ⟨w.heap.size + 1 + 1, 0, none⟩)]) rfl trivial (enters_of Try.func56 (by kernel_rfl) rfl)
    (plan_Fails.stops Fence.wide _ trivial rfl (by omega) _ L hLs _ bN) (fun _ => rfl)
    (fun pre W => ((∀ x ∈ pre, cs[x.val]? = some (some true)) ∧ W.cell? ⟨w.heap.size + 1, 0, none⟩ = some (.int .i64 0) ∧ W.frozen? ⟨w.heap.size + 1, 0, none⟩ = false) ∧ Below w.heap.size w W)
    (fun c pre W => (c = .exit 0 ∧ ∃ ini last, pre = ini ++ [last] ∧ (∀ x ∈ ini, cs[x.val]? = some (some true)) ∧ cs[last.val]? = some (some false) ∧ W.cell? ⟨w.heap.size + 1, 0, none⟩ = some (.int .i64 ((last.val : Int) + 1))) ∧ Below w.heap.size w W)
    (OwnFrom.and (Own.from (fun s A B row hs hg hr => ⟨hs.1, cell_kept hs.2.1 hg hr, (frozen_kept hs.2.1 hg hr).trans hs.2.2⟩) _) (ownFrom_below (Nat.le_refl _) (by omega)))
    (fun c => OwnFrom.and (Own.from (fun s A B row hs hg hr => by obtain ⟨hc, ini, last, e1, e2, e3, e4⟩ := hs; exact ⟨hc, ini, last, e1, e2, e3, cell_kept e4 hg hr⟩) _) (ownFrom_below (Nat.le_refl _) (by omega)))
    ⟨⟨by simp, bR2.cell, bR2.frozen⟩, hbel⟩
    (fun x => { tmps := #[.agg L, .pointer (some ⟨w.heap.size, 0, none⟩), .int .i64 0, .pointer (some ⟨w.heap.size + 1, 0, none⟩), .int .i64 ((x.val : Int) + 1), plan_Fails.fv L x.val, .agg L, .agg L, .func (.func 56) #[] #[.pointer (some ⟨w.heap.size + 1 + 1, 0, none⟩)], .int .i64 ((x.val : Int) + 1), plan_Fails.fv L x.val, undef, undef, undef, undef, undef], defers := [] }) ?assign ?body ?done ?stop)
  case assign =>
    intro l x W K hK
    gi_wp2
    exact hK
  case body =>
    rintro l pre x W ⟨⟨hp, hcr, hfr⟩, hB⟩ hx
    obtain ⟨b, hb⟩ := Hgo.out.1 x.val (by rw [Hlen.out]; exact x.isLt) (fun q hq => hp ⟨q, by omega⟩ (by rw [hx, mem_firsts]; exact hq))
    have hc := hcond x.val x.isLt b hb
    have hent := plan_Fails.enters x.val x.isLt
    have Hp := Go.Lib.hid hp
    have Hx := Go.Lib.hid hx
    have Hb := Go.Lib.hid hb
    clear hp hx hb hcond
    simp only [plan_Fails.fv]
    generalize (plan_Fails.nums)[x.val]?.getD 0 = g at hc hent ⊢
    have Hc := Go.Lib.hid hc
    clear hc
    have hlt := World.block_lt_of_cell? _ _ hcr
    cases b with
    | true =>
      gi_wp2
      refine ⟨trivial, (CallsIn.inRound l (callsIn_wide.2 (Hc.out W))).mono ?_⟩
      rintro e W' ⟨rfl, hb'⟩
      gi_wp2
      exact ⟨keepsFrom_of_below hb', CellsKept.of_below hb', ⟨fun y hy => (List.mem_append.1 hy).elim (Hp.out y) (fun e => by simp at e; subst e; exact Hb.out), (hb'.cell (p := ⟨w.heap.size + 1, 0, none⟩) hlt).trans hcr, (hb'.frozen (p := ⟨w.heap.size + 1, 0, none⟩) hlt).trans hfr⟩, hB.trans (hb'.mono hB.size)⟩
    | false =>
      gi_wp2
      refine ⟨trivial, (CallsIn.inRound l (callsIn_wide.2 (Hc.out W))).mono ?_⟩
      rintro e W' ⟨rfl, hb'⟩
      have hcr' := (hb'.cell (p := ⟨w.heap.size + 1, 0, none⟩) hlt).trans hcr
      have hfr' := (hb'.frozen (p := ⟨w.heap.size + 1, 0, none⟩) hlt).trans hfr
      gi_wp2
      exact ⟨(keepsFrom_of_below hb').trans ((KeepsOthers.setCell _ _ _).from _), ⟨rfl, pre, x, rfl, Hp.out, Hb.out, World.cell?_setCell_same' _ _ _ (by rw [hcr']; rfl)⟩, (hB.trans (hb'.mono hB.size)).setCell (p := ⟨w.heap.size + 1, 0, none⟩) (by simp) _⟩
  case done =>
    rintro D ys W hD rfl ⟨⟨hp, hcr, hfr⟩, hB⟩ hK
    have h0 := Hgo.out.2.1 (fun j hj => hp ⟨j, by rw [Hlen.out] at hj; exact hj⟩ (by simp))
    subst h0
    go_wp2
    refine ⟨by simp, .inl ⟨_, _, rfl, run_takeDeferred hK, ?_⟩⟩
    exact ⟨_, results_tmp rfl _ _ _, rfl, hB.trans (belowK_b (w := w) (Nat.le_refl _) W D _ _ (by omega) hK rfl rfl)⟩
  case stop =>
    rintro D c pre W hD ⟨k, hk, rfl⟩ ⟨⟨rfl, ini, last, e1, e2, e3, hcr⟩, hB⟩ hK
    have hr : r = (last.val : Int) + 1 := by
      have := Hgo.out.2.2 last.val (fun q hq => by
        refine e2 ⟨q, by omega⟩ ?_
        cases k with
        | zero => simp [firsts_zero] at e1
        | succ k =>
          rw [firsts_succ (by omega)] at e1
          obtain ⟨rfl, e5⟩ := List.append_inj' e1 rfl
          have e6 : (⟨k, by omega⟩ : Fin 11) = last := by simpa using e5
          have e7 : k = last.val := congrArg Fin.val e6
          rw [mem_firsts]
          show q < k
          omega) e3
      omega
    subst hr
    refine wpIn_wide.2 ?_
    go_wp2
    rw [Exit.noGoto_ret]
    refine ⟨by simp, .inl ⟨_, _, rfl, run_takeDeferred hK, ?_⟩⟩
    exact ⟨_, results_tmp rfl _ _ _, rfl, hB.trans (belowK_b (w := w) (Nat.le_refl _) W D _ _ (by omega) hK rfl rfl)⟩

end Go.Proofs.Ytomombhiganjpaa.XPlanChecks
