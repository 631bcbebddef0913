/- Contracts by the symbolic walk: vesperslaw24_alive. -/
import Derived.Test.YtaoplfmaiclfkaaProg
import Derived.Test.YtaoplfmaiclfkaaSXo
import Derived.Test.YtaoplfmaiclfkaaS7
namespace Go.Proofs.Ytaoplfmaiclfkaa.S
open Go Go.RowKit Go.Proofs.Ytaoplfmaiclfkaa.SX Go.Proofs
set_option linter.unusedVariables false
noncomputable section
def vesperslaw24_alive.f  : Option Bool :=
  ((vesperslaw24_some.f).bind fun t0 => ((plan_Check.f t0.1 t0.2.1 t0.2.2.1 t0.2.2.2.1 t0.2.2.2.2.1 t0.2.2.2.2.2.1 t0.2.2.2.2.2.2.1 t0.2.2.2.2.2.2.2.1 t0.2.2.2.2.2.2.2.2.1 t0.2.2.2.2.2.2.2.2.2.1 t0.2.2.2.2.2.2.2.2.2.2.1 t0.2.2.2.2.2.2.2.2.2.2.2.1 t0.2.2.2.2.2.2.2.2.2.2.2.2.1 t0.2.2.2.2.2.2.2.2.2.2.2.2.2.1 t0.2.2.2.2.2.2.2.2.2.2.2.2.2.2.1 t0.2.2.2.2.2.2.2.2.2.2.2.2.2.2.2).bind fun t1 => (if t1 ≠ 0 then some false else ((holdback_Hold_Put.f (100, 2, 0, [2], 100, t0.1, t0.2.1, t0.2.2.1, t0.2.2.2.1, t0.2.2.2.2.1, t0.2.2.2.2.2.1, t0.2.2.2.2.2.2.1, t0.2.2.2.2.2.2.2.1, t0.2.2.2.2.2.2.2.2.1, t0.2.2.2.2.2.2.2.2.2.1, t0.2.2.2.2.2.2.2.2.2.2.1, t0.2.2.2.2.2.2.2.2.2.2.2.1, t0.2.2.2.2.2.2.2.2.2.2.2.2.1, t0.2.2.2.2.2.2.2.2.2.2.2.2.2.1, t0.2.2.2.2.2.2.2.2.2.2.2.2.2.2.1, t0.2.2.2.2.2.2.2.2.2.2.2.2.2.2.2, [])).bind fun t2 => ((holdback_Hold_Put.f (100, 1, 0, [1], 300, t2.2.1, t2.2.2.1, t2.2.2.2.1, t2.2.2.2.2.1, t2.2.2.2.2.2.1, t2.2.2.2.2.2.2.1, t2.2.2.2.2.2.2.2.1, t2.2.2.2.2.2.2.2.2.1, t2.2.2.2.2.2.2.2.2.2.1, t2.2.2.2.2.2.2.2.2.2.2.1, t2.2.2.2.2.2.2.2.2.2.2.2.1, t2.2.2.2.2.2.2.2.2.2.2.2.2.1, t2.2.2.2.2.2.2.2.2.2.2.2.2.2.1, t2.2.2.2.2.2.2.2.2.2.2.2.2.2.2.1, t2.2.2.2.2.2.2.2.2.2.2.2.2.2.2.2.1, t2.2.2.2.2.2.2.2.2.2.2.2.2.2.2.2.2.1, t2.2.2.2.2.2.2.2.2.2.2.2.2.2.2.2.2.2)).bind fun t3 => ((holdback_Hold_Put.f (50, 3, 0, [3], 400, t3.2.1, t3.2.2.1, t3.2.2.2.1, t3.2.2.2.2.1, t3.2.2.2.2.2.1, t3.2.2.2.2.2.2.1, t3.2.2.2.2.2.2.2.1, t3.2.2.2.2.2.2.2.2.1, t3.2.2.2.2.2.2.2.2.2.1, t3.2.2.2.2.2.2.2.2.2.2.1, t3.2.2.2.2.2.2.2.2.2.2.2.1, t3.2.2.2.2.2.2.2.2.2.2.2.2.1, t3.2.2.2.2.2.2.2.2.2.2.2.2.2.1, t3.2.2.2.2.2.2.2.2.2.2.2.2.2.2.1, t3.2.2.2.2.2.2.2.2.2.2.2.2.2.2.2.1, t3.2.2.2.2.2.2.2.2.2.2.2.2.2.2.2.2.1, t3.2.2.2.2.2.2.2.2.2.2.2.2.2.2.2.2.2)).bind fun t4 => (if t2.1 ≠ 0 then some false else (if t3.1 ≠ 0 then some false else (if t4.1 ≠ 0 then some false else ((holdback_Hold_Due.f (t4.2.1, t4.2.2.1, t4.2.2.2.1, t4.2.2.2.2.1, t4.2.2.2.2.2.1, t4.2.2.2.2.2.2.1, t4.2.2.2.2.2.2.2.1, t4.2.2.2.2.2.2.2.2.1, t4.2.2.2.2.2.2.2.2.2.1, t4.2.2.2.2.2.2.2.2.2.2.1, t4.2.2.2.2.2.2.2.2.2.2.2.1, t4.2.2.2.2.2.2.2.2.2.2.2.2.1, t4.2.2.2.2.2.2.2.2.2.2.2.2.2.1, t4.2.2.2.2.2.2.2.2.2.2.2.2.2.2.1, t4.2.2.2.2.2.2.2.2.2.2.2.2.2.2.2.1, t4.2.2.2.2.2.2.2.2.2.2.2.2.2.2.2.2.1, t4.2.2.2.2.2.2.2.2.2.2.2.2.2.2.2.2.2)).bind fun t5 => (if t5.2.1 = true then (if t5.1 = 10466 then ((holdback_Hold_Len.f (t5.2.2.1, t5.2.2.2.1, t5.2.2.2.2.1, t5.2.2.2.2.2.1, t5.2.2.2.2.2.2.1, t5.2.2.2.2.2.2.2.1, t5.2.2.2.2.2.2.2.2.1, t5.2.2.2.2.2.2.2.2.2.1, t5.2.2.2.2.2.2.2.2.2.2.1, t5.2.2.2.2.2.2.2.2.2.2.2.1, t5.2.2.2.2.2.2.2.2.2.2.2.2.1, t5.2.2.2.2.2.2.2.2.2.2.2.2.2.1, t5.2.2.2.2.2.2.2.2.2.2.2.2.2.2.1, t5.2.2.2.2.2.2.2.2.2.2.2.2.2.2.2.1, t5.2.2.2.2.2.2.2.2.2.2.2.2.2.2.2.2.1, t5.2.2.2.2.2.2.2.2.2.2.2.2.2.2.2.2.2.1, t5.2.2.2.2.2.2.2.2.2.2.2.2.2.2.2.2.2.2)).bind fun t6 => some (decide (t6.1 = 3))) else some false) else some false)))))))))))
set_option maxRecDepth 100000 in
theorem vesperslaw24_alive.calls (r : Bool) (w : World) (h : vesperslaw24_alive.f = some r) :
    Calls Try.prog 18 #[] w fun e w' => e = .returned (.bool r) ∧ Below w.heap.size w w' := by
  have ht : (walk Try.prog (ctOf tab_S7) (ltOf lt_S7) 100000 18 [] [] 0).opt r_bool.dec = vesperslaw24_alive.f := by kernel_rfl
  exact calls_of named mixed tab_S7_ok.ct lt_S7_ok ht h (by kernel_rfl) (by kernel_rfl) w fun _ _ _ _ _ hd hx => r_bool.ok hd hx
noncomputable def vesperslaw24_alive.c : Entry := fun args _ _ => aN args (some { o := vesperslaw24_alive.f, enc := r_bool.enc })
theorem vesperslaw24_alive.ok : EntryOK Try.prog 18 vesperslaw24_alive.c := by
  intro args H hn c h _ r hr ρ w xs hx hrel
  unfold vesperslaw24_alive.c at h
  obtain ⟨rfl, h⟩ := aN_ok h hx
  cases h
  refine (vesperslaw24_alive.calls r w hr).mono ?_
  rintro e w' ⟨rfl, hb⟩
  exact ⟨_, ρ, rfl, r_bool.enc_rel ρ r, ⟨rfl, hrel.below hb⟩, Eff.of_below hb, fun _ h => by cases h⟩
noncomputable def t_vesperslaw24_alive : List (Nat × Entry) := (18, vesperslaw24_alive.c) :: tab_S7
theorem t_vesperslaw24_alive_ok : TabOK Try.prog t_vesperslaw24_alive := TabOK.cons vesperslaw24_alive.ok tab_S7_ok
noncomputable abbrev tab_S8 : List (Nat × Entry) := t_vesperslaw24_alive
theorem tab_S8_ok : TabOK Try.prog tab_S8 := t_vesperslaw24_alive_ok
noncomputable abbrev lt_S8 : List (Nat × Nat × LC) := lt_S7
theorem lt_S8_ok : LtOK Try.prog (ltOf lt_S8) := lt_S7_ok
end
end Go.Proofs.Ytaoplfmaiclfkaa.S
