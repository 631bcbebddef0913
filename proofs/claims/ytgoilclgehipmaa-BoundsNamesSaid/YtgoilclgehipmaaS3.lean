/- Contracts by the symbolic walk: vesperslaw29_BoundsNames. -/
import Derived.Test.YtgoilclgehipmaaProg
import Derived.Test.YtgoilclgehipmaaSXj
import Derived.Test.YtgoilclgehipmaaS2
namespace Go.Proofs.Ytgoilclgehipmaa.S
open Go Go.RowKit Go.Proofs.Ytgoilclgehipmaa.SX Go.Proofs
set_option linter.unusedVariables false
def vesperslaw29_BoundsNames.f  : Option Bool :=
  some true
set_option maxRecDepth 100000 in
theorem vesperslaw29_BoundsNames.calls (r : Bool) (w : World) (h : vesperslaw29_BoundsNames.f = some r) :
    Calls Try.prog 8 #[] w fun e w' => e = .returned (.bool r) ∧ Below w.heap.size w w' := by
  have ht : (walk Try.prog (ctOf []) noL 100000 8 [] [] 0).opt r_bool.dec = vesperslaw29_BoundsNames.f := by kernel_rfl
  exact calls_of named mixed (TabOK.nil).ct noL_ok ht h (by kernel_rfl) (by kernel_rfl) w fun _ _ _ _ _ hd hx => r_bool.ok hd hx
noncomputable def vesperslaw29_BoundsNames.c : Entry := fun args _ => aN args (some { o := vesperslaw29_BoundsNames.f, enc := r_bool.enc })
theorem vesperslaw29_BoundsNames.ok : EntryOK Try.prog 8 vesperslaw29_BoundsNames.c := by
  intro args H c h r hr ρ hn w xs hx hrel
  unfold vesperslaw29_BoundsNames.c at h
  obtain ⟨rfl, h⟩ := aN_ok h hx
  cases h
  refine (vesperslaw29_BoundsNames.calls r w hr).mono ?_
  rintro e w' ⟨rfl, hb⟩
  exact ⟨_, rfl, r_bool.enc_rel ρ r, hrel.below hb, Eff.of_below hb⟩
noncomputable def t_vesperslaw29_BoundsNames : List (Nat × Entry) := (8, vesperslaw29_BoundsNames.c) :: tab_S2
theorem t_vesperslaw29_BoundsNames_ok : TabOK Try.prog t_vesperslaw29_BoundsNames := TabOK.cons vesperslaw29_BoundsNames.ok tab_S2_ok
/-- The pure statement of vesperslaw29_BoundsNames. -/
def vesperslaw29_BoundsNames.Pure : Prop := vesperslaw29_BoundsNames.f = some true
theorem vesperslaw29_BoundsNames.walk (P : vesperslaw29_BoundsNames.Pure)  (w : World)  :
    Calls Try.prog 8 #[] w fun e w' => e = .returned (.bool true) ∧ Below w.heap.size w w' :=
  vesperslaw29_BoundsNames.calls  true w (P  )
noncomputable abbrev tab_S3 : List (Nat × Entry) := t_vesperslaw29_BoundsNames
theorem tab_S3_ok : TabOK Try.prog tab_S3 := t_vesperslaw29_BoundsNames_ok
end Go.Proofs.Ytgoilclgehipmaa.S
