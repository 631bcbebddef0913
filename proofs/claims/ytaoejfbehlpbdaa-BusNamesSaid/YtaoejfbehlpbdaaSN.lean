/- Contracts by the symbolic walk: vesperslaw12_BusNames. -/
import Derived.Test.YtaoejfbehlpbdaaProg
import Derived.Test.YtaoejfbehlpbdaaSXo
import Derived.Test.YtaoejfbehlpbdaaSC
namespace Go.Proofs.Ytaoejfbehlpbdaa.S
open Go Go.RowKit Go.Proofs.Ytaoejfbehlpbdaa.SX Go.Proofs
set_option linter.unusedVariables false
noncomputable section
def r_bool.dec : AV → Heap → Nat → Option Bool := fun v _ _ => dB v
def r_bool.enc (r : Bool) : AV := .bool (.s r)
abbrev r_bool.val (r : Bool) : Value := .bool r
theorem r_bool.enc_rel (ρ : Pl) (r : Bool) : (r_bool.enc r).rel ρ (r_bool.val r) := AV.flat_rel _ rfl
theorem r_bool.ok {v : AV} {H : Heap} {hn : Nat} {r : Bool} {ρ : Pl} {x : Value} (h : r_bool.dec v H hn = some r) (hx : v.rel ρ x) : x = r_bool.val r := by
  unfold r_bool.dec at h
  exact dB_ok h hx
def vesperslaw12_BusNames.f : Option Bool := some true
set_option maxRecDepth 100000 in
theorem vesperslaw12_BusNames.calls (r : Bool) (w : World) (h : vesperslaw12_BusNames.f = some r) :
    Calls Try.prog 7 #[] w fun e w' => e = .returned (.bool r) ∧ Below w.heap.size w w' := by
  have ht : (walk Try.prog (ctOf tab_SC) noL 100000 7 [] [] 0).holds isT = true := by kernel_rfl
  cases h
  exact calls_holds named mixed tab_SC_ok.ct noL_ok ht w
noncomputable def vesperslaw12_BusNames.c : Entry := fun args _ _ => aN args (some { o := vesperslaw12_BusNames.f, enc := r_bool.enc })
theorem vesperslaw12_BusNames.ok : EntryOK Try.prog 7 vesperslaw12_BusNames.c := by
  intro args H hn c h _ r hr ρ w xs hx hrel
  unfold vesperslaw12_BusNames.c at h
  obtain ⟨rfl, h⟩ := aN_ok h hx
  cases h
  refine (vesperslaw12_BusNames.calls r w hr).mono ?_
  rintro e w' ⟨rfl, hb⟩
  exact ⟨_, ρ, rfl, r_bool.enc_rel ρ r, ⟨rfl, hrel.below hb⟩, Eff.of_below hb, fun _ h => by cases h⟩
noncomputable def t_vesperslaw12_BusNames : List (Nat × Entry) := (7, vesperslaw12_BusNames.c) :: tab_SC
theorem t_vesperslaw12_BusNames_ok : TabOK Try.prog t_vesperslaw12_BusNames := TabOK.cons vesperslaw12_BusNames.ok tab_SC_ok
/-- The pure statement of vesperslaw12_BusNames. -/
def vesperslaw12_BusNames.Pure : Prop := vesperslaw12_BusNames.f = some true
theorem vesperslaw12_BusNames.walk (P : vesperslaw12_BusNames.Pure)  (w : World)   :
    Calls Try.prog 7 #[] w fun e w' => e = .returned (.bool true) ∧ Below w.heap.size w w' :=
  vesperslaw12_BusNames.calls  true w  (P  )
noncomputable abbrev tab_SN : List (Nat × Entry) := t_vesperslaw12_BusNames
theorem tab_SN_ok : TabOK Try.prog tab_SN := t_vesperslaw12_BusNames_ok
end
end Go.Proofs.Ytaoejfbehlpbdaa.S
