/-
  No cell of these rows narrows 'for every input' (looked for: loops, veiled, ifaces, maps, wideKeys, modest, calm, conditions, laid).
  DERIVED. THE GIVEN ROWS OF THIS SEAT. 5 by the template 'for every input the law returns true; each argument reads behind the call as it read before'; 0 by the template 'total and deterministic' (their statements: YtaoplfmaiclfkaaTotals.lean).
  GIVEN WITH THE SEED: the statements are not yours to turn. If you find one false, say at which input.
  Laid BY PROGRAM, IN A SANDBOX (cutbox-rows.mjs): the forced cells as the released guide's own fill.sh prints them over the translation dc1802d74d271f43… (all of the seat's roots in one cut). By AI agents, Wed Nov 11 2026. No macro, syntax, notation, axiom, sorry.
-/
import Derived.Test.YtaoplfmaiclfkaaChecked
import GoSem.Claim
import GoSem.ClaimJoined
import GoSem.ClaimMapViews
import Derived.JoinedTies
import Derived.KernelRfl
namespace Go.Proofs.Ytaoplfmaiclfkaa
/- THE CELL 'sum', in the pinned program and in every row, IS THE sha256 OF THE DUMP (.gsa) THAT YtaoplfmaiclfkaaProg.lean LOADS. Nothing in Lean hashes anything: it is a label: what it is worth is what the hold of that sum in a sandbox is worth. -/
noncomputable def Try.pinned : Pinned := { name := "ytaoplfmaiclfkaa", sum := "dc1802d74d271f43d1455dcac47fa95c946781d1007666fdc8a4c17ee495ec3c", checked := Try.checked }
namespace Rows
def none {H : Type} : Left H := { results := [], args := [] }

/-- 'vesperslaw24.HoldbackNames': WHATEVER THE INPUT: true; the input reads as it did. -/
def holdbackNamesSpec : ChangeSpec := { name := "holdbackNames", fn := fun _ => fun
  | [] => { results := [.lit (.bool true)], args := [] }
  | _ => none }
def holdbackNamesRow : OpenClaim := { program := "ytaoplfmaiclfkaa", sum := "dc1802d74d271f43d1455dcac47fa95c946781d1007666fdc8a4c17ee495ec3c", func := "vespers/vesperslaw24.HoldbackNames", spec := "holdbackNames", unfollowed := true, recurses := true, apart := false }
def HoldbackNamesSaid : Prop := holdbackNamesRow.holds Try.pinned (OpenSpec.ofChange holdbackNamesSpec)

/-- ITS FALSE NEIGHBOUR: 'it returns false'. Refute it at one input. -/
def holdbackNamesWrong : ChangeSpec := { name := "holdbackNames", fn := fun _ => fun
  | [] => { results := [.lit (.bool false)], args := [] }
  | _ => none }
def HoldbackNamesWrongFalsely : Prop := holdbackNamesRow.holds Try.pinned (OpenSpec.ofChange holdbackNamesWrong)

/-- 'vesperslaw24.HoldbackCopies': WHATEVER THE INPUT: true; the input reads as it did. -/
def holdbackCopiesSpec : ChangeSpec := { name := "holdbackCopies", fn := fun _ => fun
  | [d1, d2] => { results := [.lit (.bool true)], args := [d1, d2] }
  | _ => none }
def holdbackCopiesRow : OpenClaim := { program := "ytaoplfmaiclfkaa", sum := "dc1802d74d271f43d1455dcac47fa95c946781d1007666fdc8a4c17ee495ec3c", func := "vespers/vesperslaw24.HoldbackCopies", spec := "holdbackCopies", unfollowed := true, recurses := true, apart := false }
def HoldbackCopiesSaid : Prop := holdbackCopiesRow.holds Try.pinned (OpenSpec.ofChange holdbackCopiesSpec)

/-- ITS FALSE NEIGHBOUR: 'it returns false'. Refute it at one input. -/
def holdbackCopiesWrong : ChangeSpec := { name := "holdbackCopies", fn := fun _ => fun
  | [d1, d2] => { results := [.lit (.bool false)], args := [d1, d2] }
  | _ => none }
def HoldbackCopiesWrongFalsely : Prop := holdbackCopiesRow.holds Try.pinned (OpenSpec.ofChange holdbackCopiesWrong)

/-- 'vesperslaw24.HoldbackOrder': WHATEVER THE INPUT: true; the input reads as it did. -/
def holdbackOrderSpec : ChangeSpec := { name := "holdbackOrder", fn := fun _ => fun
  | [d1, d2, d3] => { results := [.lit (.bool true)], args := [d1, d2, d3] }
  | _ => none }
def holdbackOrderRow : OpenClaim := { program := "ytaoplfmaiclfkaa", sum := "dc1802d74d271f43d1455dcac47fa95c946781d1007666fdc8a4c17ee495ec3c", func := "vespers/vesperslaw24.HoldbackOrder", spec := "holdbackOrder", unfollowed := true, recurses := true, apart := false }
def HoldbackOrderSaid : Prop := holdbackOrderRow.holds Try.pinned (OpenSpec.ofChange holdbackOrderSpec)

/-- ITS FALSE NEIGHBOUR: 'it returns false'. Refute it at one input. -/
def holdbackOrderWrong : ChangeSpec := { name := "holdbackOrder", fn := fun _ => fun
  | [d1, d2, d3] => { results := [.lit (.bool false)], args := [d1, d2, d3] }
  | _ => none }
def HoldbackOrderWrongFalsely : Prop := holdbackOrderRow.holds Try.pinned (OpenSpec.ofChange holdbackOrderWrong)

/-- 'vesperslaw24.HoldbackTimes': WHATEVER THE INPUT: true; the input reads as it did. -/
def holdbackTimesSpec : ChangeSpec := { name := "holdbackTimes", fn := fun _ => fun
  | [d1, d2, d3, d4] => { results := [.lit (.bool true)], args := [d1, d2, d3, d4] }
  | _ => none }
def holdbackTimesRow : OpenClaim := { program := "ytaoplfmaiclfkaa", sum := "dc1802d74d271f43d1455dcac47fa95c946781d1007666fdc8a4c17ee495ec3c", func := "vespers/vesperslaw24.HoldbackTimes", spec := "holdbackTimes", unfollowed := true, recurses := true, apart := false }
def HoldbackTimesSaid : Prop := holdbackTimesRow.holds Try.pinned (OpenSpec.ofChange holdbackTimesSpec)

/-- ITS FALSE NEIGHBOUR: 'it returns false'. Refute it at one input. -/
def holdbackTimesWrong : ChangeSpec := { name := "holdbackTimes", fn := fun _ => fun
  | [d1, d2, d3, d4] => { results := [.lit (.bool false)], args := [d1, d2, d3, d4] }
  | _ => none }
def HoldbackTimesWrongFalsely : Prop := holdbackTimesRow.holds Try.pinned (OpenSpec.ofChange holdbackTimesWrong)

/-- 'vesperslaw24.HoldbackPlays': WHATEVER THE INPUT: true; the input reads as it did. -/
def holdbackPlaysSpec : ChangeSpec := { name := "holdbackPlays", fn := fun _ => fun
  | [d1, d2] => { results := [.lit (.bool true)], args := [d1, d2] }
  | _ => none }
def holdbackPlaysRow : OpenClaim := { program := "ytaoplfmaiclfkaa", sum := "dc1802d74d271f43d1455dcac47fa95c946781d1007666fdc8a4c17ee495ec3c", func := "vespers/vesperslaw24.HoldbackPlays", spec := "holdbackPlays", unfollowed := true, recurses := true, apart := false }
def HoldbackPlaysSaid : Prop := holdbackPlaysRow.holds Try.pinned (OpenSpec.ofChange holdbackPlaysSpec)

/-- ITS FALSE NEIGHBOUR: 'it returns false'. Refute it at one input. -/
def holdbackPlaysWrong : ChangeSpec := { name := "holdbackPlays", fn := fun _ => fun
  | [d1, d2] => { results := [.lit (.bool false)], args := [d1, d2] }
  | _ => none }
def HoldbackPlaysWrongFalsely : Prop := holdbackPlaysRow.holds Try.pinned (OpenSpec.ofChange holdbackPlaysWrong)

/- THE SECOND FORM. 'bulk': how many values and letters a reading holds, each counted each time it is reached (what is shared counts as often as it is met; a slice's spare places count too). A statement '..UptoSaid' is the law's where the arguments, and the package variables that the reading takes, are together of bulk at most 1048576: NARROWER than '..Said'. Prove '..Said' where nothing that the law and all that it calls make is longer than what came in: it says more and counts as full. Else prove '..UptoSaid'. A law counts once. -/
mutual
def uptoBulk {H : Type} : DataW H → Nat
  | .lit (.string bytes) => bytes.length + 1
  | .lit _ => 1
  | .nil => 1
  | .ptr d => uptoBulk d + 1
  | .slice elems spare => uptoBulkAll elems + uptoBulkAll spare + 1
  | .agg parts => uptoBulkAll parts + 1
  | .iface _ d => uptoBulk d + 1
  | .map entries => uptoBulkEntries entries + 1
  | .held _ => 1
def uptoBulkAll {H : Type} : List (DataW H) → Nat
  | [] => 0
  | d :: r => uptoBulk d + uptoBulkAll r
def uptoBulkEntries {H : Type} : List (Lit × DataW H) → Nat
  | [] => 0
  | x :: r => uptoBulkEntry x + uptoBulkEntries r
def uptoBulkEntry {H : Type} : Lit × DataW H → Nat
  | (.string bytes, d) => bytes.length + uptoBulk d + 1
  | (_, d) => uptoBulk d + 1
 end
def uptoSmall : (H : Type) → List (DataW H) → Bool := fun _ ds => decide (uptoBulkAll ds ≤ 1048576)
def OpenSpec.upto (s : _root_.Go.ChangeSpec) : _root_.Go.OpenSpec := { _root_.Go.OpenSpec.ofChange s with cond := some uptoSmall }

/-- 'vesperslaw24.HoldbackNames', WHERE WHAT IT READS IS OF BULK AT MOST 1048576: true; the input reads as it did. -/
def holdbackNamesUptoRow : OpenClaim := { program := "ytaoplfmaiclfkaa", sum := "dc1802d74d271f43d1455dcac47fa95c946781d1007666fdc8a4c17ee495ec3c", func := "vespers/vesperslaw24.HoldbackNames", spec := "holdbackNames", unfollowed := true, recurses := true, apart := false, narrowed := true }
def HoldbackNamesUptoSaid : Prop := holdbackNamesUptoRow.holds Try.pinned (OpenSpec.upto holdbackNamesSpec)

/-- 'vesperslaw24.HoldbackCopies', WHERE WHAT IT READS IS OF BULK AT MOST 1048576: true; the input reads as it did. -/
def holdbackCopiesUptoRow : OpenClaim := { program := "ytaoplfmaiclfkaa", sum := "dc1802d74d271f43d1455dcac47fa95c946781d1007666fdc8a4c17ee495ec3c", func := "vespers/vesperslaw24.HoldbackCopies", spec := "holdbackCopies", unfollowed := true, recurses := true, apart := false, narrowed := true }
def HoldbackCopiesUptoSaid : Prop := holdbackCopiesUptoRow.holds Try.pinned (OpenSpec.upto holdbackCopiesSpec)

/-- 'vesperslaw24.HoldbackOrder', WHERE WHAT IT READS IS OF BULK AT MOST 1048576: true; the input reads as it did. -/
def holdbackOrderUptoRow : OpenClaim := { program := "ytaoplfmaiclfkaa", sum := "dc1802d74d271f43d1455dcac47fa95c946781d1007666fdc8a4c17ee495ec3c", func := "vespers/vesperslaw24.HoldbackOrder", spec := "holdbackOrder", unfollowed := true, recurses := true, apart := false, narrowed := true }
def HoldbackOrderUptoSaid : Prop := holdbackOrderUptoRow.holds Try.pinned (OpenSpec.upto holdbackOrderSpec)

/-- 'vesperslaw24.HoldbackTimes', WHERE WHAT IT READS IS OF BULK AT MOST 1048576: true; the input reads as it did. -/
def holdbackTimesUptoRow : OpenClaim := { program := "ytaoplfmaiclfkaa", sum := "dc1802d74d271f43d1455dcac47fa95c946781d1007666fdc8a4c17ee495ec3c", func := "vespers/vesperslaw24.HoldbackTimes", spec := "holdbackTimes", unfollowed := true, recurses := true, apart := false, narrowed := true }
def HoldbackTimesUptoSaid : Prop := holdbackTimesUptoRow.holds Try.pinned (OpenSpec.upto holdbackTimesSpec)

/-- 'vesperslaw24.HoldbackPlays', WHERE WHAT IT READS IS OF BULK AT MOST 1048576: true; the input reads as it did. -/
def holdbackPlaysUptoRow : OpenClaim := { program := "ytaoplfmaiclfkaa", sum := "dc1802d74d271f43d1455dcac47fa95c946781d1007666fdc8a4c17ee495ec3c", func := "vespers/vesperslaw24.HoldbackPlays", spec := "holdbackPlays", unfollowed := true, recurses := true, apart := false, narrowed := true }
def HoldbackPlaysUptoSaid : Prop := holdbackPlaysUptoRow.holds Try.pinned (OpenSpec.upto holdbackPlaysSpec)

end Rows
end Go.Proofs.Ytaoplfmaiclfkaa
