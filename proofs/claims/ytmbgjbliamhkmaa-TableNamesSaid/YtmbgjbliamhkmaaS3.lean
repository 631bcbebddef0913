/- Contracts by the symbolic walk: vesperslaw09_TableNames. -/
import Derived.Test.YtmbgjbliamhkmaaProg
import Derived.Test.YtmbgjbliamhkmaaSXj
import Derived.Test.YtmbgjbliamhkmaaS2
namespace Go.Proofs.Ytmbgjbliamhkmaa.S
open Go Go.RowKit Go.Proofs.Ytmbgjbliamhkmaa.SX Go.Proofs
set_option linter.unusedVariables false
def vesperslaw09_TableNames.f  : Option Bool :=
  some true
set_option maxRecDepth 100000 in
theorem vesperslaw09_TableNames.calls (r : Bool) (w : World) (h : vesperslaw09_TableNames.f = some r) :
    Calls Try.prog 8 #[] w fun e w' => e = .returned (.bool r) ∧ Below w.heap.size w w' := by
  have ht : (walk Try.prog (ctOf []) noL 100000 8 [] [] 0).opt r_bool.dec = vesperslaw09_TableNames.f := by kernel_rfl
  exact calls_of named mixed (TabOK.nil).ct noL_ok ht h (by kernel_rfl) (by kernel_rfl) w fun _ _ _ _ _ hd hx => r_bool.ok hd hx
noncomputable def vesperslaw09_TableNames.c : Entry := fun args _ => aN args (some { o := vesperslaw09_TableNames.f, enc := r_bool.enc })
theorem vesperslaw09_TableNames.ok : EntryOK Try.prog 8 vesperslaw09_TableNames.c := by
  intro args H c h r hr ρ hn w xs hx hrel
  unfold vesperslaw09_TableNames.c at h
  obtain ⟨rfl, h⟩ := aN_ok h hx
  cases h
  refine (vesperslaw09_TableNames.calls r w hr).mono ?_
  rintro e w' ⟨rfl, hb⟩
  exact ⟨_, rfl, r_bool.enc_rel ρ r, hrel.below hb, Eff.of_below hb⟩
noncomputable def t_vesperslaw09_TableNames : List (Nat × Entry) := (8, vesperslaw09_TableNames.c) :: tab_S2
theorem t_vesperslaw09_TableNames_ok : TabOK Try.prog t_vesperslaw09_TableNames := TabOK.cons vesperslaw09_TableNames.ok tab_S2_ok
/-- The pure statement of vesperslaw09_TableNames. -/
def vesperslaw09_TableNames.Pure : Prop := vesperslaw09_TableNames.f = some true
theorem vesperslaw09_TableNames.walk (P : vesperslaw09_TableNames.Pure)  (w : World)  :
    Calls Try.prog 8 #[] w fun e w' => e = .returned (.bool true) ∧ Below w.heap.size w w' :=
  vesperslaw09_TableNames.calls  true w (P  )
noncomputable abbrev tab_S3 : List (Nat × Entry) := t_vesperslaw09_TableNames
theorem tab_S3_ok : TabOK Try.prog tab_S3 := t_vesperslaw09_TableNames_ok
end Go.Proofs.Ytmbgjbliamhkmaa.S
