/- Contracts by the symbolic walk: vesperslaw10_alive. -/
import Derived.Test.YtgkheobpnjmgdaaProg
import Derived.Test.YtgkheobpnjmgdaaSXo
import Derived.Test.YtgkheobpnjmgdaaS3
namespace Go.Proofs.Ytgkheobpnjmgdaa.S
open Go Go.RowKit Go.Proofs.Ytgkheobpnjmgdaa.SX Go.Proofs
set_option linter.unusedVariables false
noncomputable section
def vesperslaw10_alive.f  : Option Bool :=
  ((vesperslaw10_at.f 5 1).bind fun t0 => ((agenda_Agenda_Put.f (t0.fst, t0.snd.fst, t0.snd.snd.fst, t0.snd.snd.snd.fst, t0.snd.snd.snd.snd, 0, [])).bind fun t1 => ((vesperslaw10_at.f 3 9).bind fun t2 => ((agenda_Agenda_Put.f (t2.fst, t2.snd.fst, t2.snd.snd.fst, t2.snd.snd.snd.fst, t2.snd.snd.snd.snd, t1.snd.fst, t1.snd.snd)).bind fun t3 => ((vesperslaw10_at.f 5 0).bind fun t4 => ((agenda_Agenda_Put.f (t4.fst, t4.snd.fst, t4.snd.snd.fst, t4.snd.snd.snd.fst, t4.snd.snd.snd.snd, t3.snd.fst, t3.snd.snd)).bind fun t5 => ((agenda_Agenda_Take.f (t5.snd.fst, t5.snd.snd)).bind fun t6 => ((agenda_Agenda_Take.f (t6.snd.snd.snd.snd.snd.snd.fst, t6.snd.snd.snd.snd.snd.snd.snd)).bind fun t7 => ((agenda_Agenda_Take.f (t7.snd.snd.snd.snd.snd.snd.fst, t7.snd.snd.snd.snd.snd.snd.snd)).bind fun t8 => (if t1.fst = 0 then (if t3.fst = 0 then (if t5.fst = 0 then ((vesperslaw10_at.f 3 9).bind fun t9 => (if (decide (t6.fst = t9.fst) && (decide (t6.snd.fst = t9.snd.fst) && (decide (t6.snd.snd.fst = t9.snd.snd.fst) && (decide (t6.snd.snd.snd.fst = t9.snd.snd.snd.fst) && (decide (t6.snd.snd.snd.snd.fst = t9.snd.snd.snd.snd) && true))))) = true then ((vesperslaw10_at.f 5 0).bind fun t10 => (if (decide (t7.fst = t10.fst) && (decide (t7.snd.fst = t10.snd.fst) && (decide (t7.snd.snd.fst = t10.snd.snd.fst) && (decide (t7.snd.snd.snd.fst = t10.snd.snd.snd.fst) && (decide (t7.snd.snd.snd.snd.fst = t10.snd.snd.snd.snd) && true))))) = true then ((vesperslaw10_at.f 5 1).bind fun t11 => (if (decide (t8.fst = t11.fst) && (decide (t8.snd.fst = t11.snd.fst) && (decide (t8.snd.snd.fst = t11.snd.snd.fst) && (decide (t8.snd.snd.snd.fst = t11.snd.snd.snd.fst) && (decide (t8.snd.snd.snd.snd.fst = t11.snd.snd.snd.snd) && true))))) = true then (if t8.snd.snd.snd.snd.snd.fst = true then some (decide (Int.ofNat t8.snd.snd.snd.snd.snd.snd.snd.length = 0)) else some false) else some false)) else some false)) else some false)) else some false) else some false) else some false))))))))))
set_option maxRecDepth 100000 in
theorem vesperslaw10_alive.calls (r : Bool) (w : World) (h : vesperslaw10_alive.f = some r) :
    Calls Try.prog 10 #[] w fun e w' => e = .returned (.bool r) ∧ Below w.heap.size w w' := by
  have ht : ((walk Try.prog (ctOf tab_S3) (ltOf lt_S3) 100000 10 [] [] 0).strip).opt r_bool.dec = vesperslaw10_alive.f := by kernel_rfl
  have hs : (walk Try.prog (ctOf tab_S3) (ltOf lt_S3) 100000 10 [] [] 0).fixed = walk Try.prog (ctOf tab_S3) (ltOf lt_S3) 100000 10 [] [] 0 := by kernel_rfl
  exact calls_of' named mixed tab_S3_ok.ct lt_S3_ok hs ht h (by kernel_rfl) (by kernel_rfl) w fun _ _ _ _ _ hd hx => r_bool.ok hd hx
noncomputable def vesperslaw10_alive.c : Entry := fun args _ _ => aN args (some { o := vesperslaw10_alive.f, enc := r_bool.enc })
theorem vesperslaw10_alive.ok : EntryOK Try.prog 10 vesperslaw10_alive.c := by
  intro args H hn c h _ r hr ρ w xs hx hrel
  unfold vesperslaw10_alive.c at h
  obtain ⟨rfl, h⟩ := aN_ok h hx
  cases h
  refine (vesperslaw10_alive.calls r w hr).mono ?_
  rintro e w' ⟨rfl, hb⟩
  exact ⟨_, ρ, rfl, r_bool.enc_rel ρ r, ⟨rfl, hrel.below hb⟩, Eff.of_below hb⟩
noncomputable def t_vesperslaw10_alive : List (Nat × Entry) := (10, vesperslaw10_alive.c) :: tab_S3
theorem t_vesperslaw10_alive_ok : TabOK Try.prog t_vesperslaw10_alive := TabOK.cons vesperslaw10_alive.ok tab_S3_ok
noncomputable abbrev tab_S8 : List (Nat × Entry) := t_vesperslaw10_alive
theorem tab_S8_ok : TabOK Try.prog tab_S8 := t_vesperslaw10_alive_ok
noncomputable abbrev lt_S8 : List (Nat × Nat × LC) := lt_S3
theorem lt_S8_ok : LtOK Try.prog (ltOf lt_S8) := lt_S3_ok
end
end Go.Proofs.Ytgkheobpnjmgdaa.S
