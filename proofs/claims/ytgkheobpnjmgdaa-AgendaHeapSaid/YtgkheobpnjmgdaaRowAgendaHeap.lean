-- The row of the law vesperslaw10_AgendaHeap, out of its pure statement and its walk. Printed by sx.py (this session's program).
import Derived.Test.YtgkheobpnjmgdaaRows
import Derived.Test.YtgkheobpnjmgdaaTHeap
import Derived.Test.YtgkheobpnjmgdaaPureAgendaHeap
import Derived.Test.YtgkheobpnjmgdaaXOpen
import Derived.WalkKit
import Derived.ProofKit
import Derived.OpenShut
import Derived.ShutString
import Derived.ChangeOld
import Derived.Below
import Derived.SizedLaws
import Derived.Carry
namespace Go.Proofs.Ytgkheobpnjmgdaa.agendaHeap
open Go.ChangeShapes Go.WideShapes Go.ChangeAt Go.RowKit Go.Proofs.Ytgkheobpnjmgdaa.XOpen Go.Proofs.YtgkheobpnjmgdaaW.PrintWords
open Go.ChangeMaps (open_string shut_string)
set_option linter.unusedVariables false
theorem own : ownKnob Try.prog.godebug = none := by kernel_rfl
theorem laidOut : laidOutB Try.prog = true := by kernel_rfl
set_option maxRecDepth 100000 in
set_option maxHeartbeats 1000000 in
theorem lifted (os : Os) (started : os.Started) (H : Type) (enc : TypeId × Value → H) :
    ReturnsInHanded {} Try.checked os 4 .any (Rows.agendaHeapSpec.pre6 enc Try.prog Try.f4 Rows.agendaHeapRow.domain false) (Rows.agendaHeapSpec.post enc Try.prog Try.f4 false true false false) := by
  refine returnsInHanded_of_change_sized (C := Try.checked) own started (by kernel_rfl) Try.func4
    (ChangeSpec.witness6 (enc := enc) (C := Try.checked) false ⟨#[], #[.slice none 0 0], []⟩ 8 (by kernel_rfl) (by kernel_rfl) (by kernel_rfl) (by kernel_rfl)) ?_
  intro W base args ds gs before hval0 hW hcnd hsz0 _
  have hsz : (DataW.weightsEach Try.prog (Try.f4.params.toList ++ Rows.agendaHeapSpec.plain.varTypes Try.prog) (ds ++ gs)).all (· ≤ reachBytes) = true := hsz0
  have hval : ∀ (j : Nat) t v, Try.f4.params[j]? = some t → args[j]? = some v → Value.okWide Try.prog W .any base t v := hval0
  have hW' := hW
  obtain ⟨p, q, hA0, hV, rfl, hfz, hnd⟩ := hW
  have hA : DataW.TrodAll enc Try.prog W 0 (fun _ => true) true Try.f4.params.toList args.toList ds p := hA0
  rw [Try.params4] at hA hval hsz
  obtain ⟨v0, vs0, d0, ds0, p0, q0, hargs, rfl, rfl, h0, r0⟩ := trodAll_cons hA
  obtain ⟨rfl, rfl, rfl⟩ := trodAll_nil r0
  obtain rfl : args = #[v0] := by cases args; simp_all
  obtain ⟨rfl, rfl⟩ := trodVars_none hV
  have k0 := h0
  have lt0 : ∀ x ∈ p0, x.block < W.heap.size := by obtain ⟨m, hm⟩ := k0; exact DataW.trod_lt m _ _ _ hm
  obtain ⟨a0, hl0, w0⟩ := SX.open_els (ty := (SX.Ty.pair (SX.Ty.int .i64) (SX.Ty.pair (SX.Ty.int .i64) (SX.Ty.pair (SX.Ty.int .i64) (SX.Ty.pair (SX.Ty.int .i64) (SX.Ty.int .i64)))))) (opens_struct Try.underlying32 (by kernel_rfl) (opensF_cons (opens_int Try.underlying2 (by kernel_rfl)) rfl (opensF_cons (opens_int Try.underlying3 (by kernel_rfl)) rfl (opensF_cons (opens_int Try.underlying3 (by kernel_rfl)) rfl (opensF_cons (opens_int Try.underlying3 (by kernel_rfl)) rfl (opensF_one (opens_int Try.underlying2 (by kernel_rfl)) rfl) (by decide)) (by decide)) (by decide)) (by decide))) rfl (by decide) (SX.KT_pair SX.KT_int (SX.KT_pair SX.KT_int (SX.KT_pair SX.KT_int (SX.KT_pair SX.KT_int SX.KT_int)))) Try.underlying22 (okWide_slice Try.underlying22 (hval 0 22 v0 rfl rfl)) h0 (wt_each hsz (j := 0) rfl rfl)
  clear hA0 hval0 hsz0 hsz
  refine (Go.Proofs.Ytgkheobpnjmgdaa.S.vesperslaw10_AgendaHeap.walk Pure.LAgendaHeap.proved a0 W w0 _ hl0).mono fun e W' ⟨he, bel⟩ => ?_
  subst he
  exact ⟨_, rfl, _, _, _, [], _, [], hW', trodAll_mk1 (shut_bool Try.underlying4 _), (trodAll_cons_mk (Below.trod laidOut (by kernel_rfl) (of_decide_eq_true (by kernel_rfl)) k0 bel lt0) trodAll_mk0), rfl, bel.frame _, fun h => by cases h⟩
theorem over : Rows.agendaHeapRow.holds Try.pinned (OpenSpec.ofChange Rows.agendaHeapSpec) :=
  OpenClaim.holds_of_wide 4 Try.f4 rfl rfl rfl rfl rfl rfl rfl ⟨rfl, rfl, rfl, rfl, rfl⟩ rfl rfl rfl rfl rfl (by kernel_rfl) Try.func4 (by kernel_rfl)
    (of_decide_eq_true (by kernel_rfl)) (by unfold Func.isWrapper; first | (rw [if_pos (by decide +kernel)]; kernel_rfl) | (rw [if_neg (by decide +kernel)]; exact ⟨rfl, rfl⟩))
    (fun os started H enc _ => lifted os started H enc)
theorem proved : Rows.AgendaHeapSaid := over
end Go.Proofs.Ytgkheobpnjmgdaa.agendaHeap
namespace Go.Proofs.Ytgkheobpnjmgdaa
/-- The row, under a short name, for the claim. -/
theorem agendaHeap_holds : Rows.AgendaHeapSaid := agendaHeap.proved
end Go.Proofs.Ytgkheobpnjmgdaa
