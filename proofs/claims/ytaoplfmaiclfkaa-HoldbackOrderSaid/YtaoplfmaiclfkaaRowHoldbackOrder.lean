-- The row of the law lHO, out of its pure statement and its walk. Printed by sx.py (this session's program).
import Derived.Test.YtaoplfmaiclfkaaRows
import Derived.Test.YtaoplfmaiclfkaaZ2
import Derived.Test.YtaoplfmaiclfkaaPureHoldbackOrder
import Derived.Test.YtaoplfmaiclfkaaXOpen
import Derived.WalkKit
import Derived.ProofKit
import Derived.OpenShut
import Derived.ShutString
import Derived.ChangeOld
import Derived.Below
import Derived.SizedLaws
import Derived.Carry
namespace Go.Proofs.Ytaoplfmaiclfkaa.holdbackOrder
open Go.ChangeShapes Go.WideShapes Go.ChangeAt Go.RowKit Go.Proofs.Ytaoplfmaiclfkaa.XOpen Go.Proofs.YtaoplfmaiclfkaaW.PrintWords
open Go.ChangeMaps (open_string shut_string)
set_option linter.unusedVariables false
theorem own : ownKnob Try.prog.godebug = none := by kernel_rfl
theorem laidOut : laidOutB Try.prog = true := by kernel_rfl
set_option maxRecDepth 100000 in
set_option maxHeartbeats 1000000 in
theorem lifted (os : Os) (started : os.Started) (H : Type) (enc : TypeId × Value → H) :
    ReturnsInHanded {} Try.checked os 5 .any (Rows.holdbackOrderSpec.pre6 enc Try.prog Try.f5 Rows.holdbackOrderRow.domain false) (Rows.holdbackOrderSpec.post enc Try.prog Try.f5 false true false false) := by
  refine returnsInHanded_of_change_sized (C := Try.checked) own started (by kernel_rfl) Try.func5
    (ChangeSpec.witness6 (enc := enc) (C := Try.checked) false ⟨#[], #[.agg #[.int .i64 0, .int .i64 0, .int .i64 0, .int .i64 0, .int .i64 0, .int .i64 0, .int .i64 0, .int .i64 0, .int .i64 0, .int .i64 0, .int .i64 0, .int .i64 0, .int .i64 0, .int .i64 0, .int .i64 0, .int .i64 0], .slice none 0 0, .slice none 0 0], []⟩ 8 (by kernel_rfl) (by kernel_rfl) (by kernel_rfl) (by kernel_rfl)) ?_
  intro W base args ds gs before hval0 hW hcnd hsz0 _
  have hsz : (DataW.weightsEach Try.prog (Try.f5.params.toList ++ Rows.holdbackOrderSpec.plain.varTypes Try.prog) (ds ++ gs)).all (· ≤ reachBytes) = true := hsz0
  have hval : ∀ (j : Nat) t v, Try.f5.params[j]? = some t → args[j]? = some v → Value.okWide Try.prog W .any base t v := hval0
  have hW' := hW
  obtain ⟨p, q, hA0, hV, rfl, hfz, hnd⟩ := hW
  have hA : DataW.TrodAll enc Try.prog W 0 (fun _ => true) true Try.f5.params.toList args.toList ds p := hA0
  rw [Try.params5] at hA hval hsz
  obtain ⟨v0, vs0, d0, ds0, p0, q0, hargs, rfl, rfl, h0, r0⟩ := trodAll_cons hA
  obtain ⟨v1, vs1, d1, ds1, p1, q1, rfl, rfl, rfl, h1, r1⟩ := trodAll_cons r0
  obtain ⟨v2, vs2, d2, ds2, p2, q2, rfl, rfl, rfl, h2, r2⟩ := trodAll_cons r1
  obtain ⟨rfl, rfl, rfl⟩ := trodAll_nil r2
  obtain rfl : args = #[v0, v1, v2] := by cases args; simp_all
  obtain ⟨rfl, rfl⟩ := trodVars_none hV
  have k0 := h0
  have lt0 : ∀ x ∈ p0, x.block < W.heap.size := by obtain ⟨m, hm⟩ := k0; exact DataW.trod_lt m _ _ _ hm
  have wt0 : Wt Try.prog 37 d0 := wt_each hsz (j := 0) rfl rfl
  obtain ⟨x0, cs0, rfl, hk0, ho0⟩ := open_agg (opens_struct Try.underlying37 (by kernel_rfl) (opensF_cons (opens_int Try.underlying3 (by kernel_rfl)) rfl (opensF_cons (opens_int Try.underlying3 (by kernel_rfl)) rfl (opensF_cons (opens_int Try.underlying2 (by kernel_rfl)) rfl (opensF_cons (opens_int Try.underlying2 (by kernel_rfl)) rfl (opensF_cons (opens_int Try.underlying2 (by kernel_rfl)) rfl (opensF_cons (opens_int Try.underlying2 (by kernel_rfl)) rfl (opensF_cons (opens_int Try.underlying2 (by kernel_rfl)) rfl (opensF_cons (opens_int Try.underlying2 (by kernel_rfl)) rfl (opensF_cons (opens_int Try.underlying2 (by kernel_rfl)) rfl (opensF_cons (opens_int Try.underlying2 (by kernel_rfl)) rfl (opensF_cons (opens_int Try.underlying2 (by kernel_rfl)) rfl (opensF_cons (opens_int Try.underlying2 (by kernel_rfl)) rfl (opensF_cons (opens_int Try.underlying3 (by kernel_rfl)) rfl (opensF_cons (opens_int Try.underlying3 (by kernel_rfl)) rfl (opensF_cons (opens_int Try.underlying3 (by kernel_rfl)) rfl (opensF_one (opens_int Try.underlying2 (by kernel_rfl)) rfl) (by decide)) (by decide)) (by decide)) (by decide)) (by decide)) (by decide)) (by decide)) (by decide)) (by decide)) (by decide)) (by decide)) (by decide)) (by decide)) (by decide)) (by decide))) Try.underlying37 (hval 0 37 v0 rfl rfl) h0 wt0
  obtain ⟨a0_0, a0_1, a0_2, a0_3, a0_4, a0_5, a0_6, a0_7, a0_8, a0_9, a0_10, a0_11, a0_12, a0_13, a0_14, a0_15⟩ := x0
  obtain ⟨_, _, rfl, rfl, ⟨_, _, rfl, rfl, ⟨_, _, rfl, rfl, ⟨_, _, rfl, rfl, ⟨_, _, rfl, rfl, ⟨_, _, rfl, rfl, ⟨_, _, rfl, rfl, ⟨_, _, rfl, rfl, ⟨_, _, rfl, rfl, ⟨_, _, rfl, rfl, ⟨_, _, rfl, rfl, ⟨_, _, rfl, rfl, ⟨_, _, rfl, rfl, ⟨_, _, rfl, rfl, ⟨_, _, rfl, rfl, rfl⟩⟩⟩⟩⟩⟩⟩⟩⟩⟩⟩⟩⟩⟩⟩ := hk0
  obtain ⟨w0_0, ⟨w0_1, ⟨w0_2, ⟨w0_3, ⟨w0_4, ⟨w0_5, ⟨w0_6, ⟨w0_7, ⟨w0_8, ⟨w0_9, ⟨w0_10, ⟨w0_11, ⟨w0_12, ⟨w0_13, ⟨w0_14, w0_15⟩⟩⟩⟩⟩⟩⟩⟩⟩⟩⟩⟩⟩⟩⟩ := ho0
  have k1 := h1
  have lt1 : ∀ x ∈ p1, x.block < W.heap.size := by obtain ⟨m, hm⟩ := k1; exact DataW.trod_lt m _ _ _ hm
  obtain ⟨a1, hl1, w1⟩ := SX.open_els (ty := (SX.Ty.pair (SX.Ty.int .i64) (SX.Ty.pair (SX.Ty.pair (SX.Ty.int .i64) (SX.Ty.pair (SX.Ty.int .i64) (SX.Ty.pair (SX.Ty.int .i64) (SX.Ty.sl (SX.Ty.int .u8))))) (SX.Ty.int .i64)))) (SX.opT_struct Try.underlying53 (by kernel_rfl) (SX.opTF_cons (SX.opT_int Try.underlying3 (by kernel_rfl)) rfl (SX.opTF_cons (SX.opT_struct Try.underlying29 (by kernel_rfl) (SX.opTF_cons (SX.opT_int Try.underlying2 (by kernel_rfl)) rfl (SX.opTF_cons (SX.opT_int Try.underlying3 (by kernel_rfl)) rfl (SX.opTF_cons (SX.opT_int Try.underlying3 (by kernel_rfl)) rfl (SX.opTF_one (SX.opT_slice Try.underlying27 (by kernel_rfl) (by decide) (SX.opT_int Try.underlying5 (by kernel_rfl))) rfl) (by decide)) (by decide)) (by decide))) rfl (SX.opTF_one (SX.opT_int Try.underlying2 (by kernel_rfl)) rfl) (by decide)) (by decide))) (by decide) Try.underlying50 (okWide_slice Try.underlying50 (hval 1 50 v1 rfl rfl)) h1 (wt_each hsz (j := 1) rfl rfl)
  have k2 := h2
  have lt2 : ∀ x ∈ p2, x.block < W.heap.size := by obtain ⟨m, hm⟩ := k2; exact DataW.trod_lt m _ _ _ hm
  obtain ⟨a2, hl2, w2⟩ := SX.open_sl Try.underlying55 Try.underlying57 (by kernel_rfl) (okWide_slice Try.underlying55 (hval 2 55 v2 rfl rfl)) h2
  clear hA0 hval0 hsz0 hsz
  refine (Go.Proofs.Ytaoplfmaiclfkaa.S.lHO.walk Pure.LHoldbackOrder.proved a0_0 a0_1 a0_2 a0_3 a0_4 a0_5 a0_6 a0_7 a0_8 a0_9 a0_10 a0_11 a0_12 a0_13 a0_14 a0_15 a1 a2 W w0_0 w0_1 w0_2 w0_3 w0_4 w0_5 w0_6 w0_7 w0_8 w0_9 w0_10 w0_11 w0_12 w0_13 w0_14 w0_15 w1 w2 _ hl1 _ hl2).mono fun e W' ⟨he, bel⟩ => ?_
  subst he
  exact ⟨_, rfl, _, _, _, [], _, [], hW', trodAll_mk1 (shut_bool Try.underlying4 _), (trodAll_cons_mk (Below.trod laidOut (by kernel_rfl) (of_decide_eq_true (by kernel_rfl)) k0 bel lt0) (trodAll_cons_mk (Below.trod laidOut (by kernel_rfl) (of_decide_eq_true (by kernel_rfl)) k1 bel lt1) (trodAll_cons_mk (Below.trod laidOut (by kernel_rfl) (of_decide_eq_true (by kernel_rfl)) k2 bel lt2) trodAll_mk0))), rfl, bel.frame _, fun h => by cases h⟩
theorem over : Rows.holdbackOrderRow.holds Try.pinned (OpenSpec.ofChange Rows.holdbackOrderSpec) :=
  OpenClaim.holds_of_wide 5 Try.f5 rfl rfl rfl rfl rfl rfl rfl ⟨rfl, rfl, rfl, rfl, rfl⟩ rfl rfl rfl rfl rfl (by kernel_rfl) Try.func5 (by kernel_rfl)
    (of_decide_eq_true (by kernel_rfl)) (by unfold Func.isWrapper; first | (rw [if_pos (by decide +kernel)]; kernel_rfl) | (rw [if_neg (by decide +kernel)]; exact ⟨rfl, rfl⟩))
    (fun os started H enc _ => lifted os started H enc)
theorem proved : Rows.HoldbackOrderSaid := over
end Go.Proofs.Ytaoplfmaiclfkaa.holdbackOrder
namespace Go.Proofs.Ytaoplfmaiclfkaa
/-- The row, under a short name, for the claim. -/
theorem holdbackOrder_holds : Rows.HoldbackOrderSaid := holdbackOrder.proved
end Go.Proofs.Ytaoplfmaiclfkaa
