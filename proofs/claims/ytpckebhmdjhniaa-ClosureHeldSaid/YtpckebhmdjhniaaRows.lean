/-
  No cell of these rows narrows 'for every input' (looked for: loops, veiled, ifaces, maps, wideKeys, modest, calm, conditions, laid).
  DERIVED. THE GIVEN ROWS OF THIS SEAT. 6 by the template 'for every input the law returns true; each argument reads behind the call as it read before'; 0 by the template 'total and deterministic' (their statements: YtpckebhmdjhniaaTotals.lean).
  GIVEN WITH THE SEED: the statements are not yours to turn. If you find one false, say at which input.
  Laid BY PROGRAM, IN A SANDBOX (cutbox-rows.mjs): the forced cells as the released guide's own fill.sh prints them over the translation 2af25f37e6589f86… (all of the seat's roots in one cut). By AI agents, Wed Nov 11 2026. No macro, syntax, notation, axiom, sorry.
-/
import Derived.Test.YtpckebhmdjhniaaChecked
import GoSem.Claim
import GoSem.ClaimJoined
import GoSem.ClaimMapViews
import Derived.JoinedTies
import Derived.KernelRfl
namespace Go.Proofs.Ytpckebhmdjhniaa
/- THE CELL 'sum', in the pinned program and in every row, IS THE sha256 OF THE DUMP (.gsa) THAT YtpckebhmdjhniaaProg.lean LOADS. Nothing in Lean hashes anything: it is a label: what it is worth is what the hold of that sum in a sandbox is worth. -/
noncomputable def Try.pinned : Pinned := { name := "ytpckebhmdjhniaa", sum := "2af25f37e6589f8614e430a006500cf79d6a48b1d2362425e8e64ce444a13d03", checked := Try.checked }
namespace Rows
def none {H : Type} : Left H := { results := [], args := [] }

/-- 'skiarealaw52.ClosureRights': WHATEVER THE INPUT: true; the input reads as it did. -/
def closureRightsSpec : ChangeSpec := { name := "closureRights", fn := fun _ => fun
  | [d] => { results := [.lit (.bool true)], args := [d] }
  | _ => none }
def closureRightsRow : OpenClaim := { program := "ytpckebhmdjhniaa", sum := "2af25f37e6589f8614e430a006500cf79d6a48b1d2362425e8e64ce444a13d03", func := "skiarea/skiarealaw52.ClosureRights", spec := "closureRights", unfollowed := true, recurses := true, apart := false }
def ClosureRightsSaid : Prop := closureRightsRow.holds Try.pinned (OpenSpec.ofChange closureRightsSpec)

/-- ITS FALSE NEIGHBOUR: 'it returns false'. Refute it at one input. -/
def closureRightsWrong : ChangeSpec := { name := "closureRights", fn := fun _ => fun
  | [d] => { results := [.lit (.bool false)], args := [d] }
  | _ => none }
def ClosureRightsWrongFalsely : Prop := closureRightsRow.holds Try.pinned (OpenSpec.ofChange closureRightsWrong)

/-- 'skiarealaw52.ClosureChanges': WHATEVER THE INPUT: true; the input reads as it did. -/
def closureChangesSpec : ChangeSpec := { name := "closureChanges", fn := fun _ => fun
  | [d1, d2, d3] => { results := [.lit (.bool true)], args := [d1, d2, d3] }
  | _ => none }
def closureChangesRow : OpenClaim := { program := "ytpckebhmdjhniaa", sum := "2af25f37e6589f8614e430a006500cf79d6a48b1d2362425e8e64ce444a13d03", func := "skiarea/skiarealaw52.ClosureChanges", spec := "closureChanges", unfollowed := true, recurses := true, apart := false }
def ClosureChangesSaid : Prop := closureChangesRow.holds Try.pinned (OpenSpec.ofChange closureChangesSpec)

/-- ITS FALSE NEIGHBOUR: 'it returns false'. Refute it at one input. -/
def closureChangesWrong : ChangeSpec := { name := "closureChanges", fn := fun _ => fun
  | [d1, d2, d3] => { results := [.lit (.bool false)], args := [d1, d2, d3] }
  | _ => none }
def ClosureChangesWrongFalsely : Prop := closureChangesRow.holds Try.pinned (OpenSpec.ofChange closureChangesWrong)

/-- 'skiarealaw52.ClosureAsks': WHATEVER THE INPUT: true; the input reads as it did. -/
def closureAsksSpec : ChangeSpec := { name := "closureAsks", fn := fun _ => fun
  | [d1, d2, d3] => { results := [.lit (.bool true)], args := [d1, d2, d3] }
  | _ => none }
def closureAsksRow : OpenClaim := { program := "ytpckebhmdjhniaa", sum := "2af25f37e6589f8614e430a006500cf79d6a48b1d2362425e8e64ce444a13d03", func := "skiarea/skiarealaw52.ClosureAsks", spec := "closureAsks", unfollowed := true, recurses := true, apart := false }
def ClosureAsksSaid : Prop := closureAsksRow.holds Try.pinned (OpenSpec.ofChange closureAsksSpec)

/-- ITS FALSE NEIGHBOUR: 'it returns false'. Refute it at one input. -/
def closureAsksWrong : ChangeSpec := { name := "closureAsks", fn := fun _ => fun
  | [d1, d2, d3] => { results := [.lit (.bool false)], args := [d1, d2, d3] }
  | _ => none }
def ClosureAsksWrongFalsely : Prop := closureAsksRow.holds Try.pinned (OpenSpec.ofChange closureAsksWrong)

/-- 'skiarealaw52.ClosureHeld': WHATEVER THE INPUT: true; the input reads as it did. -/
def closureHeldSpec : ChangeSpec := { name := "closureHeld", fn := fun _ => fun
  | [d1, d2, d3] => { results := [.lit (.bool true)], args := [d1, d2, d3] }
  | _ => none }
def closureHeldRow : OpenClaim := { program := "ytpckebhmdjhniaa", sum := "2af25f37e6589f8614e430a006500cf79d6a48b1d2362425e8e64ce444a13d03", func := "skiarea/skiarealaw52.ClosureHeld", spec := "closureHeld", unfollowed := true, recurses := true, apart := false }
def ClosureHeldSaid : Prop := closureHeldRow.holds Try.pinned (OpenSpec.ofChange closureHeldSpec)

/-- ITS FALSE NEIGHBOUR: 'it returns false'. Refute it at one input. -/
def closureHeldWrong : ChangeSpec := { name := "closureHeld", fn := fun _ => fun
  | [d1, d2, d3] => { results := [.lit (.bool false)], args := [d1, d2, d3] }
  | _ => none }
def ClosureHeldWrongFalsely : Prop := closureHeldRow.holds Try.pinned (OpenSpec.ofChange closureHeldWrong)

/-- 'skiarealaw52.ClosureBack': WHATEVER THE INPUT: true; the input reads as it did. -/
def closureBackSpec : ChangeSpec := { name := "closureBack", fn := fun _ => fun
  | [d1, d2] => { results := [.lit (.bool true)], args := [d1, d2] }
  | _ => none }
def closureBackRow : OpenClaim := { program := "ytpckebhmdjhniaa", sum := "2af25f37e6589f8614e430a006500cf79d6a48b1d2362425e8e64ce444a13d03", func := "skiarea/skiarealaw52.ClosureBack", spec := "closureBack", unfollowed := true, recurses := true, apart := false }
def ClosureBackSaid : Prop := closureBackRow.holds Try.pinned (OpenSpec.ofChange closureBackSpec)

/-- ITS FALSE NEIGHBOUR: 'it returns false'. Refute it at one input. -/
def closureBackWrong : ChangeSpec := { name := "closureBack", fn := fun _ => fun
  | [d1, d2] => { results := [.lit (.bool false)], args := [d1, d2] }
  | _ => none }
def ClosureBackWrongFalsely : Prop := closureBackRow.holds Try.pinned (OpenSpec.ofChange closureBackWrong)

/-- 'skiarealaw52.ClosureTargets': WHATEVER THE INPUT: true; the input reads as it did. -/
def closureTargetsSpec : ChangeSpec := { name := "closureTargets", fn := fun _ => fun
  | [d1, d2, d3] => { results := [.lit (.bool true)], args := [d1, d2, d3] }
  | _ => none }
def closureTargetsRow : OpenClaim := { program := "ytpckebhmdjhniaa", sum := "2af25f37e6589f8614e430a006500cf79d6a48b1d2362425e8e64ce444a13d03", func := "skiarea/skiarealaw52.ClosureTargets", spec := "closureTargets", unfollowed := true, recurses := true, apart := false }
def ClosureTargetsSaid : Prop := closureTargetsRow.holds Try.pinned (OpenSpec.ofChange closureTargetsSpec)

/-- ITS FALSE NEIGHBOUR: 'it returns false'. Refute it at one input. -/
def closureTargetsWrong : ChangeSpec := { name := "closureTargets", fn := fun _ => fun
  | [d1, d2, d3] => { results := [.lit (.bool false)], args := [d1, d2, d3] }
  | _ => none }
def ClosureTargetsWrongFalsely : Prop := closureTargetsRow.holds Try.pinned (OpenSpec.ofChange closureTargetsWrong)

/- THE SECOND FORM. 'bulk': how many values and letters a reading holds, each counted each time it is reached (what is shared counts as often as it is met; a slice's spare places count too). A statement '..UptoSaid' is the law's where the arguments, and the package variables that the reading takes, are together of bulk at most 1048576: NARROWER than '..Said'. Prove '..Said' where nothing that the law and all that it calls make is longer than what came in: it says more and counts as full. Else prove '..UptoSaid'. A law counts once. -/
mutual
def uptoBulk {H : Type} : DataW H → Nat
  | .lit (.string bytes) => bytes.length + 1
  | .lit _ => 1
  | .nil => 1
  | .ptr d => uptoBulk d + 1
  | .slice elems spare => uptoBulkAll elems + uptoBulkAll spare + 1
  | .agg parts => uptoBulkAll parts + 1
  | .iface _ d => uptoBulk d + 1
  | .map entries => uptoBulkEntries entries + 1
  | .held _ => 1
def uptoBulkAll {H : Type} : List (DataW H) → Nat
  | [] => 0
  | d :: r => uptoBulk d + uptoBulkAll r
def uptoBulkEntries {H : Type} : List (Lit × DataW H) → Nat
  | [] => 0
  | x :: r => uptoBulkEntry x + uptoBulkEntries r
def uptoBulkEntry {H : Type} : Lit × DataW H → Nat
  | (.string bytes, d) => bytes.length + uptoBulk d + 1
  | (_, d) => uptoBulk d + 1
 end
def uptoSmall : (H : Type) → List (DataW H) → Bool := fun _ ds => decide (uptoBulkAll ds ≤ 1048576)
def OpenSpec.upto (s : _root_.Go.ChangeSpec) : _root_.Go.OpenSpec := { _root_.Go.OpenSpec.ofChange s with cond := some uptoSmall }

/-- 'skiarealaw52.ClosureRights', WHERE WHAT IT READS IS OF BULK AT MOST 1048576: true; the input reads as it did. -/
def closureRightsUptoRow : OpenClaim := { program := "ytpckebhmdjhniaa", sum := "2af25f37e6589f8614e430a006500cf79d6a48b1d2362425e8e64ce444a13d03", func := "skiarea/skiarealaw52.ClosureRights", spec := "closureRights", unfollowed := true, recurses := true, apart := false, narrowed := true }
def ClosureRightsUptoSaid : Prop := closureRightsUptoRow.holds Try.pinned (OpenSpec.upto closureRightsSpec)

/-- 'skiarealaw52.ClosureChanges', WHERE WHAT IT READS IS OF BULK AT MOST 1048576: true; the input reads as it did. -/
def closureChangesUptoRow : OpenClaim := { program := "ytpckebhmdjhniaa", sum := "2af25f37e6589f8614e430a006500cf79d6a48b1d2362425e8e64ce444a13d03", func := "skiarea/skiarealaw52.ClosureChanges", spec := "closureChanges", unfollowed := true, recurses := true, apart := false, narrowed := true }
def ClosureChangesUptoSaid : Prop := closureChangesUptoRow.holds Try.pinned (OpenSpec.upto closureChangesSpec)

/-- 'skiarealaw52.ClosureAsks', WHERE WHAT IT READS IS OF BULK AT MOST 1048576: true; the input reads as it did. -/
def closureAsksUptoRow : OpenClaim := { program := "ytpckebhmdjhniaa", sum := "2af25f37e6589f8614e430a006500cf79d6a48b1d2362425e8e64ce444a13d03", func := "skiarea/skiarealaw52.ClosureAsks", spec := "closureAsks", unfollowed := true, recurses := true, apart := false, narrowed := true }
def ClosureAsksUptoSaid : Prop := closureAsksUptoRow.holds Try.pinned (OpenSpec.upto closureAsksSpec)

/-- 'skiarealaw52.ClosureHeld', WHERE WHAT IT READS IS OF BULK AT MOST 1048576: true; the input reads as it did. -/
def closureHeldUptoRow : OpenClaim := { program := "ytpckebhmdjhniaa", sum := "2af25f37e6589f8614e430a006500cf79d6a48b1d2362425e8e64ce444a13d03", func := "skiarea/skiarealaw52.ClosureHeld", spec := "closureHeld", unfollowed := true, recurses := true, apart := false, narrowed := true }
def ClosureHeldUptoSaid : Prop := closureHeldUptoRow.holds Try.pinned (OpenSpec.upto closureHeldSpec)

/-- 'skiarealaw52.ClosureBack', WHERE WHAT IT READS IS OF BULK AT MOST 1048576: true; the input reads as it did. -/
def closureBackUptoRow : OpenClaim := { program := "ytpckebhmdjhniaa", sum := "2af25f37e6589f8614e430a006500cf79d6a48b1d2362425e8e64ce444a13d03", func := "skiarea/skiarealaw52.ClosureBack", spec := "closureBack", unfollowed := true, recurses := true, apart := false, narrowed := true }
def ClosureBackUptoSaid : Prop := closureBackUptoRow.holds Try.pinned (OpenSpec.upto closureBackSpec)

/-- 'skiarealaw52.ClosureTargets', WHERE WHAT IT READS IS OF BULK AT MOST 1048576: true; the input reads as it did. -/
def closureTargetsUptoRow : OpenClaim := { program := "ytpckebhmdjhniaa", sum := "2af25f37e6589f8614e430a006500cf79d6a48b1d2362425e8e64ce444a13d03", func := "skiarea/skiarealaw52.ClosureTargets", spec := "closureTargets", unfollowed := true, recurses := true, apart := false, narrowed := true }
def ClosureTargetsUptoSaid : Prop := closureTargetsUptoRow.holds Try.pinned (OpenSpec.upto closureTargetsSpec)

end Rows
end Go.Proofs.Ytpckebhmdjhniaa
