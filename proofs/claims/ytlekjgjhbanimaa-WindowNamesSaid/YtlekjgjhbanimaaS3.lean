/- Contracts by the symbolic walk: vesperslaw16_WindowNames. -/
import Derived.Test.YtlekjgjhbanimaaProg
import Derived.Test.YtlekjgjhbanimaaSXk
import Derived.Test.YtlekjgjhbanimaaS2
namespace Go.Proofs.Ytlekjgjhbanimaa.S
open Go Go.RowKit Go.Proofs.Ytlekjgjhbanimaa.SX Go.Proofs
set_option linter.unusedVariables false
noncomputable section
def vesperslaw16_WindowNames.f : Option Bool := some true
set_option maxRecDepth 100000 in
theorem vesperslaw16_WindowNames.calls (r : Bool) (w : World) (h : vesperslaw16_WindowNames.f = some r) :
    Calls Try.prog 7 #[] w fun e w' => e = .returned (.bool r) ∧ Below w.heap.size w w' := by
  have ht : (walk Try.prog (ctOf tab_S2) noL 100000 7 [] [] 0).holds isT = true := by kernel_rfl
  cases h
  exact calls_holds named mixed tab_S2_ok.ct noL_ok ht w
noncomputable def vesperslaw16_WindowNames.c : Entry := fun args _ => aN args (some { o := vesperslaw16_WindowNames.f, enc := r_bool.enc })
theorem vesperslaw16_WindowNames.ok : EntryOK Try.prog 7 vesperslaw16_WindowNames.c := by
  intro args H c h r hr ρ hn w xs hx hrel
  unfold vesperslaw16_WindowNames.c at h
  obtain ⟨rfl, h⟩ := aN_ok h hx
  cases h
  refine (vesperslaw16_WindowNames.calls r w hr).mono ?_
  rintro e w' ⟨rfl, hb⟩
  exact ⟨_, rfl, r_bool.enc_rel ρ r, hrel.below hb, Eff.of_below hb⟩
noncomputable def t_vesperslaw16_WindowNames : List (Nat × Entry) := (7, vesperslaw16_WindowNames.c) :: tab_S2
theorem t_vesperslaw16_WindowNames_ok : TabOK Try.prog t_vesperslaw16_WindowNames := TabOK.cons vesperslaw16_WindowNames.ok tab_S2_ok
/-- The pure statement of vesperslaw16_WindowNames. -/
def vesperslaw16_WindowNames.Pure : Prop := vesperslaw16_WindowNames.f = some true
theorem vesperslaw16_WindowNames.walk (P : vesperslaw16_WindowNames.Pure)  (w : World)   :
    Calls Try.prog 7 #[] w fun e w' => e = .returned (.bool true) ∧ Below w.heap.size w w' :=
  vesperslaw16_WindowNames.calls  true w  (P  )
noncomputable abbrev tab_S3 : List (Nat × Entry) := t_vesperslaw16_WindowNames
theorem tab_S3_ok : TabOK Try.prog tab_S3 := t_vesperslaw16_WindowNames_ok
end
end Go.Proofs.Ytlekjgjhbanimaa.S
