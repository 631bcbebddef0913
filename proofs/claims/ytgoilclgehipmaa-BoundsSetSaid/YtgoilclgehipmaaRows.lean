/-
  No cell of these rows narrows 'for every input' (looked for: loops, veiled, ifaces, maps, wideKeys, modest, calm, conditions, laid).
  DERIVED. THE GIVEN ROWS OF THIS SEAT. 7 by the template 'for every input the law returns true; each argument reads behind the call as it read before'; 0 by the template 'total and deterministic' (their statements: YtgoilclgehipmaaTotals.lean).
  GIVEN WITH THE SEED: the statements are not yours to turn. If you find one false, say at which input.
  Laid BY PROGRAM, IN A SANDBOX (cutbox-rows.mjs): the forced cells as the released guide's own fill.sh prints them over the translation 4bacbdc62e032078… (all of the seat's roots in one cut). By AI agents, Wed Nov 11 2026. No macro, syntax, notation, axiom, sorry.
-/
import Derived.Test.YtgoilclgehipmaaChecked
import GoSem.Claim
import GoSem.ClaimJoined
import GoSem.ClaimMapViews
import Derived.JoinedTies
import Derived.KernelRfl
namespace Go.Proofs.Ytgoilclgehipmaa
/- THE CELL 'sum', in the pinned program and in every row, IS THE sha256 OF THE DUMP (.gsa) THAT YtgoilclgehipmaaProg.lean LOADS. Nothing in Lean hashes anything: it is a label: what it is worth is what the hold of that sum in a sandbox is worth. -/
noncomputable def Try.pinned : Pinned := { name := "ytgoilclgehipmaa", sum := "4bacbdc62e0320784956840b2339c7066904623f5702e7cd6e48f5f81837c6e0", checked := Try.checked }
namespace Rows
def none {H : Type} : Left H := { results := [], args := [] }

/-- 'vesperslaw29.BoundsTimes': WHATEVER THE INPUT: true; the input reads as it did. -/
def boundsTimesSpec : ChangeSpec := { name := "boundsTimes", fn := fun _ => fun
  | [d1, d2] => { results := [.lit (.bool true)], args := [d1, d2] }
  | _ => none }
def boundsTimesRow : OpenClaim := { program := "ytgoilclgehipmaa", sum := "4bacbdc62e0320784956840b2339c7066904623f5702e7cd6e48f5f81837c6e0", func := "vespers/vesperslaw29.BoundsTimes", spec := "boundsTimes", unfollowed := true, recurses := true, apart := false }
def BoundsTimesSaid : Prop := boundsTimesRow.holds Try.pinned (OpenSpec.ofChange boundsTimesSpec)

/-- ITS FALSE NEIGHBOUR: 'it returns false'. Refute it at one input. -/
def boundsTimesWrong : ChangeSpec := { name := "boundsTimes", fn := fun _ => fun
  | [d1, d2] => { results := [.lit (.bool false)], args := [d1, d2] }
  | _ => none }
def BoundsTimesWrongFalsely : Prop := boundsTimesRow.holds Try.pinned (OpenSpec.ofChange boundsTimesWrong)

/-- 'vesperslaw29.BoundsPlans': WHATEVER THE INPUT: true; the input reads as it did. -/
def boundsPlansSpec : ChangeSpec := { name := "boundsPlans", fn := fun _ => fun
  | [d] => { results := [.lit (.bool true)], args := [d] }
  | _ => none }
def boundsPlansRow : OpenClaim := { program := "ytgoilclgehipmaa", sum := "4bacbdc62e0320784956840b2339c7066904623f5702e7cd6e48f5f81837c6e0", func := "vespers/vesperslaw29.BoundsPlans", spec := "boundsPlans", unfollowed := true, recurses := true, apart := false }
def BoundsPlansSaid : Prop := boundsPlansRow.holds Try.pinned (OpenSpec.ofChange boundsPlansSpec)

/-- ITS FALSE NEIGHBOUR: 'it returns false'. Refute it at one input. -/
def boundsPlansWrong : ChangeSpec := { name := "boundsPlans", fn := fun _ => fun
  | [d] => { results := [.lit (.bool false)], args := [d] }
  | _ => none }
def BoundsPlansWrongFalsely : Prop := boundsPlansRow.holds Try.pinned (OpenSpec.ofChange boundsPlansWrong)

/-- 'vesperslaw29.BoundsBack': WHATEVER THE INPUT: true; the input reads as it did. -/
def boundsBackSpec : ChangeSpec := { name := "boundsBack", fn := fun _ => fun
  | [d1, d2] => { results := [.lit (.bool true)], args := [d1, d2] }
  | _ => none }
def boundsBackRow : OpenClaim := { program := "ytgoilclgehipmaa", sum := "4bacbdc62e0320784956840b2339c7066904623f5702e7cd6e48f5f81837c6e0", func := "vespers/vesperslaw29.BoundsBack", spec := "boundsBack", unfollowed := true, recurses := true, apart := false }
def BoundsBackSaid : Prop := boundsBackRow.holds Try.pinned (OpenSpec.ofChange boundsBackSpec)

/-- ITS FALSE NEIGHBOUR: 'it returns false'. Refute it at one input. -/
def boundsBackWrong : ChangeSpec := { name := "boundsBack", fn := fun _ => fun
  | [d1, d2] => { results := [.lit (.bool false)], args := [d1, d2] }
  | _ => none }
def BoundsBackWrongFalsely : Prop := boundsBackRow.holds Try.pinned (OpenSpec.ofChange boundsBackWrong)

/-- 'vesperslaw29.BoundsMore': WHATEVER THE INPUT: true; the input reads as it did. -/
def boundsMoreSpec : ChangeSpec := { name := "boundsMore", fn := fun _ => fun
  | [d1, d2, d3] => { results := [.lit (.bool true)], args := [d1, d2, d3] }
  | _ => none }
def boundsMoreRow : OpenClaim := { program := "ytgoilclgehipmaa", sum := "4bacbdc62e0320784956840b2339c7066904623f5702e7cd6e48f5f81837c6e0", func := "vespers/vesperslaw29.BoundsMore", spec := "boundsMore", unfollowed := true, recurses := true, apart := false }
def BoundsMoreSaid : Prop := boundsMoreRow.holds Try.pinned (OpenSpec.ofChange boundsMoreSpec)

/-- ITS FALSE NEIGHBOUR: 'it returns false'. Refute it at one input. -/
def boundsMoreWrong : ChangeSpec := { name := "boundsMore", fn := fun _ => fun
  | [d1, d2, d3] => { results := [.lit (.bool false)], args := [d1, d2, d3] }
  | _ => none }
def BoundsMoreWrongFalsely : Prop := boundsMoreRow.holds Try.pinned (OpenSpec.ofChange boundsMoreWrong)

/-- 'vesperslaw29.BoundsClock': WHATEVER THE INPUT: true; the input reads as it did. -/
def boundsClockSpec : ChangeSpec := { name := "boundsClock", fn := fun _ => fun
  | [d1, d2, d3, d4] => { results := [.lit (.bool true)], args := [d1, d2, d3, d4] }
  | _ => none }
def boundsClockRow : OpenClaim := { program := "ytgoilclgehipmaa", sum := "4bacbdc62e0320784956840b2339c7066904623f5702e7cd6e48f5f81837c6e0", func := "vespers/vesperslaw29.BoundsClock", spec := "boundsClock", unfollowed := true, recurses := true, apart := false }
def BoundsClockSaid : Prop := boundsClockRow.holds Try.pinned (OpenSpec.ofChange boundsClockSpec)

/-- ITS FALSE NEIGHBOUR: 'it returns false'. Refute it at one input. -/
def boundsClockWrong : ChangeSpec := { name := "boundsClock", fn := fun _ => fun
  | [d1, d2, d3, d4] => { results := [.lit (.bool false)], args := [d1, d2, d3, d4] }
  | _ => none }
def BoundsClockWrongFalsely : Prop := boundsClockRow.holds Try.pinned (OpenSpec.ofChange boundsClockWrong)

/-- 'vesperslaw29.BoundsNames': WHATEVER THE INPUT: true; the input reads as it did. -/
def boundsNamesSpec : ChangeSpec := { name := "boundsNames", fn := fun _ => fun
  | [] => { results := [.lit (.bool true)], args := [] }
  | _ => none }
def boundsNamesRow : OpenClaim := { program := "ytgoilclgehipmaa", sum := "4bacbdc62e0320784956840b2339c7066904623f5702e7cd6e48f5f81837c6e0", func := "vespers/vesperslaw29.BoundsNames", spec := "boundsNames", unfollowed := true, recurses := true, apart := false }
def BoundsNamesSaid : Prop := boundsNamesRow.holds Try.pinned (OpenSpec.ofChange boundsNamesSpec)

/-- ITS FALSE NEIGHBOUR: 'it returns false'. Refute it at one input. -/
def boundsNamesWrong : ChangeSpec := { name := "boundsNames", fn := fun _ => fun
  | [] => { results := [.lit (.bool false)], args := [] }
  | _ => none }
def BoundsNamesWrongFalsely : Prop := boundsNamesRow.holds Try.pinned (OpenSpec.ofChange boundsNamesWrong)

/-- 'vesperslaw29.BoundsSet': WHATEVER THE INPUT: true; the input reads as it did. -/
def boundsSetSpec : ChangeSpec := { name := "boundsSet", fn := fun _ => fun
  | [d1, d2, d3, d4, d5] => { results := [.lit (.bool true)], args := [d1, d2, d3, d4, d5] }
  | _ => none }
def boundsSetRow : OpenClaim := { program := "ytgoilclgehipmaa", sum := "4bacbdc62e0320784956840b2339c7066904623f5702e7cd6e48f5f81837c6e0", func := "vespers/vesperslaw29.BoundsSet", spec := "boundsSet", unfollowed := true, recurses := true, apart := false }
def BoundsSetSaid : Prop := boundsSetRow.holds Try.pinned (OpenSpec.ofChange boundsSetSpec)

/-- ITS FALSE NEIGHBOUR: 'it returns false'. Refute it at one input. -/
def boundsSetWrong : ChangeSpec := { name := "boundsSet", fn := fun _ => fun
  | [d1, d2, d3, d4, d5] => { results := [.lit (.bool false)], args := [d1, d2, d3, d4, d5] }
  | _ => none }
def BoundsSetWrongFalsely : Prop := boundsSetRow.holds Try.pinned (OpenSpec.ofChange boundsSetWrong)

/- THE SECOND FORM. 'bulk': how many values and letters a reading holds, each counted each time it is reached (what is shared counts as often as it is met; a slice's spare places count too). A statement '..UptoSaid' is the law's where the arguments, and the package variables that the reading takes, are together of bulk at most 1048576: NARROWER than '..Said'. Prove '..Said' where nothing that the law and all that it calls make is longer than what came in: it says more and counts as full. Else prove '..UptoSaid'. A law counts once. -/
mutual
def uptoBulk {H : Type} : DataW H → Nat
  | .lit (.string bytes) => bytes.length + 1
  | .lit _ => 1
  | .nil => 1
  | .ptr d => uptoBulk d + 1
  | .slice elems spare => uptoBulkAll elems + uptoBulkAll spare + 1
  | .agg parts => uptoBulkAll parts + 1
  | .iface _ d => uptoBulk d + 1
  | .map entries => uptoBulkEntries entries + 1
  | .held _ => 1
def uptoBulkAll {H : Type} : List (DataW H) → Nat
  | [] => 0
  | d :: r => uptoBulk d + uptoBulkAll r
def uptoBulkEntries {H : Type} : List (Lit × DataW H) → Nat
  | [] => 0
  | x :: r => uptoBulkEntry x + uptoBulkEntries r
def uptoBulkEntry {H : Type} : Lit × DataW H → Nat
  | (.string bytes, d) => bytes.length + uptoBulk d + 1
  | (_, d) => uptoBulk d + 1
 end
def uptoSmall : (H : Type) → List (DataW H) → Bool := fun _ ds => decide (uptoBulkAll ds ≤ 1048576)
def OpenSpec.upto (s : _root_.Go.ChangeSpec) : _root_.Go.OpenSpec := { _root_.Go.OpenSpec.ofChange s with cond := some uptoSmall }

/-- 'vesperslaw29.BoundsTimes', WHERE WHAT IT READS IS OF BULK AT MOST 1048576: true; the input reads as it did. -/
def boundsTimesUptoRow : OpenClaim := { program := "ytgoilclgehipmaa", sum := "4bacbdc62e0320784956840b2339c7066904623f5702e7cd6e48f5f81837c6e0", func := "vespers/vesperslaw29.BoundsTimes", spec := "boundsTimes", unfollowed := true, recurses := true, apart := false, narrowed := true }
def BoundsTimesUptoSaid : Prop := boundsTimesUptoRow.holds Try.pinned (OpenSpec.upto boundsTimesSpec)

/-- 'vesperslaw29.BoundsPlans', WHERE WHAT IT READS IS OF BULK AT MOST 1048576: true; the input reads as it did. -/
def boundsPlansUptoRow : OpenClaim := { program := "ytgoilclgehipmaa", sum := "4bacbdc62e0320784956840b2339c7066904623f5702e7cd6e48f5f81837c6e0", func := "vespers/vesperslaw29.BoundsPlans", spec := "boundsPlans", unfollowed := true, recurses := true, apart := false, narrowed := true }
def BoundsPlansUptoSaid : Prop := boundsPlansUptoRow.holds Try.pinned (OpenSpec.upto boundsPlansSpec)

/-- 'vesperslaw29.BoundsBack', WHERE WHAT IT READS IS OF BULK AT MOST 1048576: true; the input reads as it did. -/
def boundsBackUptoRow : OpenClaim := { program := "ytgoilclgehipmaa", sum := "4bacbdc62e0320784956840b2339c7066904623f5702e7cd6e48f5f81837c6e0", func := "vespers/vesperslaw29.BoundsBack", spec := "boundsBack", unfollowed := true, recurses := true, apart := false, narrowed := true }
def BoundsBackUptoSaid : Prop := boundsBackUptoRow.holds Try.pinned (OpenSpec.upto boundsBackSpec)

/-- 'vesperslaw29.BoundsMore', WHERE WHAT IT READS IS OF BULK AT MOST 1048576: true; the input reads as it did. -/
def boundsMoreUptoRow : OpenClaim := { program := "ytgoilclgehipmaa", sum := "4bacbdc62e0320784956840b2339c7066904623f5702e7cd6e48f5f81837c6e0", func := "vespers/vesperslaw29.BoundsMore", spec := "boundsMore", unfollowed := true, recurses := true, apart := false, narrowed := true }
def BoundsMoreUptoSaid : Prop := boundsMoreUptoRow.holds Try.pinned (OpenSpec.upto boundsMoreSpec)

/-- 'vesperslaw29.BoundsClock', WHERE WHAT IT READS IS OF BULK AT MOST 1048576: true; the input reads as it did. -/
def boundsClockUptoRow : OpenClaim := { program := "ytgoilclgehipmaa", sum := "4bacbdc62e0320784956840b2339c7066904623f5702e7cd6e48f5f81837c6e0", func := "vespers/vesperslaw29.BoundsClock", spec := "boundsClock", unfollowed := true, recurses := true, apart := false, narrowed := true }
def BoundsClockUptoSaid : Prop := boundsClockUptoRow.holds Try.pinned (OpenSpec.upto boundsClockSpec)

/-- 'vesperslaw29.BoundsNames', WHERE WHAT IT READS IS OF BULK AT MOST 1048576: true; the input reads as it did. -/
def boundsNamesUptoRow : OpenClaim := { program := "ytgoilclgehipmaa", sum := "4bacbdc62e0320784956840b2339c7066904623f5702e7cd6e48f5f81837c6e0", func := "vespers/vesperslaw29.BoundsNames", spec := "boundsNames", unfollowed := true, recurses := true, apart := false, narrowed := true }
def BoundsNamesUptoSaid : Prop := boundsNamesUptoRow.holds Try.pinned (OpenSpec.upto boundsNamesSpec)

/-- 'vesperslaw29.BoundsSet', WHERE WHAT IT READS IS OF BULK AT MOST 1048576: true; the input reads as it did. -/
def boundsSetUptoRow : OpenClaim := { program := "ytgoilclgehipmaa", sum := "4bacbdc62e0320784956840b2339c7066904623f5702e7cd6e48f5f81837c6e0", func := "vespers/vesperslaw29.BoundsSet", spec := "boundsSet", unfollowed := true, recurses := true, apart := false, narrowed := true }
def BoundsSetUptoSaid : Prop := boundsSetUptoRow.holds Try.pinned (OpenSpec.upto boundsSetSpec)

end Rows
end Go.Proofs.Ytgoilclgehipmaa
