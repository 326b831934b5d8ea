/-
  No cell of these rows narrows 'for every input' (looked for: loops, veiled, ifaces, maps, wideKeys, modest, calm, conditions, laid).
  DERIVED. THE GIVEN ROWS OF THIS SEAT. 6 by the template 'for every input the law returns true; each argument reads behind the call as it read before'; 0 by the template 'total and deterministic' (their statements: YtfajjgkhanjcfaaTotals.lean).
  GIVEN WITH THE SEED: the statements are not yours to turn. If you find one false, say at which input.
  Laid BY PROGRAM, IN A SANDBOX (cutbox-rows.mjs): the forced cells as the released guide's own fill.sh prints them over the translation 03d44e96f1586b03… (all of the seat's roots in one cut). By AI agents, Wed Nov 11 2026. No macro, syntax, notation, axiom, sorry.
-/
import Derived.Test.YtfajjgkhanjcfaaChecked
import GoSem.Claim
import GoSem.ClaimJoined
import GoSem.ClaimMapViews
import Derived.JoinedTies
import Derived.KernelRfl
namespace Go.Proofs.Ytfajjgkhanjcfaa
/- THE CELL 'sum', in the pinned program and in every row, IS THE sha256 OF THE DUMP (.gsa) THAT YtfajjgkhanjcfaaProg.lean LOADS. Nothing in Lean hashes anything: it is a label: what it is worth is what the hold of that sum in a sandbox is worth. -/
noncomputable def Try.pinned : Pinned := { name := "ytfajjgkhanjcfaa", sum := "03d44e96f1586b03a5149d6cdef8d588846a4530f3e6f450826b39f8e1030da1", checked := Try.checked }
namespace Rows
def none {H : Type} : Left H := { results := [], args := [] }

/-- 'skiarealaw28.GateRight': WHATEVER THE INPUT: true; the input reads as it did. -/
def gateRightSpec : ChangeSpec := { name := "gateRight", fn := fun _ => fun
  | [d] => { results := [.lit (.bool true)], args := [d] }
  | _ => none }
def gateRightRow : OpenClaim := { program := "ytfajjgkhanjcfaa", sum := "03d44e96f1586b03a5149d6cdef8d588846a4530f3e6f450826b39f8e1030da1", func := "skiarea/skiarealaw28.GateRight", spec := "gateRight", unfollowed := true, recurses := true, apart := false }
def GateRightSaid : Prop := gateRightRow.holds Try.pinned (OpenSpec.ofChange gateRightSpec)

/-- ITS FALSE NEIGHBOUR: 'it returns false'. Refute it at one input. -/
def gateRightWrong : ChangeSpec := { name := "gateRight", fn := fun _ => fun
  | [d] => { results := [.lit (.bool false)], args := [d] }
  | _ => none }
def GateRightWrongFalsely : Prop := gateRightRow.holds Try.pinned (OpenSpec.ofChange gateRightWrong)

/-- 'skiarealaw28.GateDecides': WHATEVER THE INPUT: true; the input reads as it did. -/
def gateDecidesSpec : ChangeSpec := { name := "gateDecides", fn := fun _ => fun
  | [d1, d2, d3, d4] => { results := [.lit (.bool true)], args := [d1, d2, d3, d4] }
  | _ => none }
def gateDecidesRow : OpenClaim := { program := "ytfajjgkhanjcfaa", sum := "03d44e96f1586b03a5149d6cdef8d588846a4530f3e6f450826b39f8e1030da1", func := "skiarea/skiarealaw28.GateDecides", spec := "gateDecides", unfollowed := true, recurses := true, apart := false }
def GateDecidesSaid : Prop := gateDecidesRow.holds Try.pinned (OpenSpec.ofChange gateDecidesSpec)

/-- ITS FALSE NEIGHBOUR: 'it returns false'. Refute it at one input. -/
def gateDecidesWrong : ChangeSpec := { name := "gateDecides", fn := fun _ => fun
  | [d1, d2, d3, d4] => { results := [.lit (.bool false)], args := [d1, d2, d3, d4] }
  | _ => none }
def GateDecidesWrongFalsely : Prop := gateDecidesRow.holds Try.pinned (OpenSpec.ofChange gateDecidesWrong)

/-- 'skiarealaw28.GateHears': WHATEVER THE INPUT: true; the input reads as it did. -/
def gateHearsSpec : ChangeSpec := { name := "gateHears", fn := fun _ => fun
  | [d1, d2, d3] => { results := [.lit (.bool true)], args := [d1, d2, d3] }
  | _ => none }
def gateHearsRow : OpenClaim := { program := "ytfajjgkhanjcfaa", sum := "03d44e96f1586b03a5149d6cdef8d588846a4530f3e6f450826b39f8e1030da1", func := "skiarea/skiarealaw28.GateHears", spec := "gateHears", unfollowed := true, recurses := true, apart := false }
def GateHearsSaid : Prop := gateHearsRow.holds Try.pinned (OpenSpec.ofChange gateHearsSpec)

/-- ITS FALSE NEIGHBOUR: 'it returns false'. Refute it at one input. -/
def gateHearsWrong : ChangeSpec := { name := "gateHears", fn := fun _ => fun
  | [d1, d2, d3] => { results := [.lit (.bool false)], args := [d1, d2, d3] }
  | _ => none }
def GateHearsWrongFalsely : Prop := gateHearsRow.holds Try.pinned (OpenSpec.ofChange gateHearsWrong)

/-- 'skiarealaw28.GateExact': WHATEVER THE INPUT: true; the input reads as it did. -/
def gateExactSpec : ChangeSpec := { name := "gateExact", fn := fun _ => fun
  | [d1, d2, d3, d4] => { results := [.lit (.bool true)], args := [d1, d2, d3, d4] }
  | _ => none }
def gateExactRow : OpenClaim := { program := "ytfajjgkhanjcfaa", sum := "03d44e96f1586b03a5149d6cdef8d588846a4530f3e6f450826b39f8e1030da1", func := "skiarea/skiarealaw28.GateExact", spec := "gateExact", unfollowed := true, recurses := true, apart := false }
def GateExactSaid : Prop := gateExactRow.holds Try.pinned (OpenSpec.ofChange gateExactSpec)

/-- ITS FALSE NEIGHBOUR: 'it returns false'. Refute it at one input. -/
def gateExactWrong : ChangeSpec := { name := "gateExact", fn := fun _ => fun
  | [d1, d2, d3, d4] => { results := [.lit (.bool false)], args := [d1, d2, d3, d4] }
  | _ => none }
def GateExactWrongFalsely : Prop := gateExactRow.holds Try.pinned (OpenSpec.ofChange gateExactWrong)

/-- 'skiarealaw28.GateRides': WHATEVER THE INPUT: true; the input reads as it did. -/
def gateRidesSpec : ChangeSpec := { name := "gateRides", fn := fun _ => fun
  | [d1, d2, d3, d4, d5] => { results := [.lit (.bool true)], args := [d1, d2, d3, d4, d5] }
  | _ => none }
def gateRidesRow : OpenClaim := { program := "ytfajjgkhanjcfaa", sum := "03d44e96f1586b03a5149d6cdef8d588846a4530f3e6f450826b39f8e1030da1", func := "skiarea/skiarealaw28.GateRides", spec := "gateRides", unfollowed := true, recurses := true, apart := false }
def GateRidesSaid : Prop := gateRidesRow.holds Try.pinned (OpenSpec.ofChange gateRidesSpec)

/-- ITS FALSE NEIGHBOUR: 'it returns false'. Refute it at one input. -/
def gateRidesWrong : ChangeSpec := { name := "gateRides", fn := fun _ => fun
  | [d1, d2, d3, d4, d5] => { results := [.lit (.bool false)], args := [d1, d2, d3, d4, d5] }
  | _ => none }
def GateRidesWrongFalsely : Prop := gateRidesRow.holds Try.pinned (OpenSpec.ofChange gateRidesWrong)

/-- 'skiarealaw28.GateRevokes': WHATEVER THE INPUT: true; the input reads as it did. -/
def gateRevokesSpec : ChangeSpec := { name := "gateRevokes", fn := fun _ => fun
  | [d1, d2, d3, d4, d5] => { results := [.lit (.bool true)], args := [d1, d2, d3, d4, d5] }
  | _ => none }
def gateRevokesRow : OpenClaim := { program := "ytfajjgkhanjcfaa", sum := "03d44e96f1586b03a5149d6cdef8d588846a4530f3e6f450826b39f8e1030da1", func := "skiarea/skiarealaw28.GateRevokes", spec := "gateRevokes", unfollowed := true, recurses := true, apart := false }
def GateRevokesSaid : Prop := gateRevokesRow.holds Try.pinned (OpenSpec.ofChange gateRevokesSpec)

/-- ITS FALSE NEIGHBOUR: 'it returns false'. Refute it at one input. -/
def gateRevokesWrong : ChangeSpec := { name := "gateRevokes", fn := fun _ => fun
  | [d1, d2, d3, d4, d5] => { results := [.lit (.bool false)], args := [d1, d2, d3, d4, d5] }
  | _ => none }
def GateRevokesWrongFalsely : Prop := gateRevokesRow.holds Try.pinned (OpenSpec.ofChange gateRevokesWrong)

/- THE SECOND FORM. 'bulk': how many values and letters a reading holds, each counted each time it is reached (what is shared counts as often as it is met; a slice's spare places count too). A statement '..UptoSaid' is the law's where the arguments, and the package variables that the reading takes, are together of bulk at most 1048576: NARROWER than '..Said'. Prove '..Said' where nothing that the law and all that it calls make is longer than what came in: it says more and counts as full. Else prove '..UptoSaid'. A law counts once. -/
mutual
def uptoBulk {H : Type} : DataW H → Nat
  | .lit (.string bytes) => bytes.length + 1
  | .lit _ => 1
  | .nil => 1
  | .ptr d => uptoBulk d + 1
  | .slice elems spare => uptoBulkAll elems + uptoBulkAll spare + 1
  | .agg parts => uptoBulkAll parts + 1
  | .iface _ d => uptoBulk d + 1
  | .map entries => uptoBulkEntries entries + 1
  | .held _ => 1
def uptoBulkAll {H : Type} : List (DataW H) → Nat
  | [] => 0
  | d :: r => uptoBulk d + uptoBulkAll r
def uptoBulkEntries {H : Type} : List (Lit × DataW H) → Nat
  | [] => 0
  | x :: r => uptoBulkEntry x + uptoBulkEntries r
def uptoBulkEntry {H : Type} : Lit × DataW H → Nat
  | (.string bytes, d) => bytes.length + uptoBulk d + 1
  | (_, d) => uptoBulk d + 1
 end
def uptoSmall : (H : Type) → List (DataW H) → Bool := fun _ ds => decide (uptoBulkAll ds ≤ 1048576)
def OpenSpec.upto (s : _root_.Go.ChangeSpec) : _root_.Go.OpenSpec := { _root_.Go.OpenSpec.ofChange s with cond := some uptoSmall }

/-- 'skiarealaw28.GateRight', WHERE WHAT IT READS IS OF BULK AT MOST 1048576: true; the input reads as it did. -/
def gateRightUptoRow : OpenClaim := { program := "ytfajjgkhanjcfaa", sum := "03d44e96f1586b03a5149d6cdef8d588846a4530f3e6f450826b39f8e1030da1", func := "skiarea/skiarealaw28.GateRight", spec := "gateRight", unfollowed := true, recurses := true, apart := false, narrowed := true }
def GateRightUptoSaid : Prop := gateRightUptoRow.holds Try.pinned (OpenSpec.upto gateRightSpec)

/-- 'skiarealaw28.GateDecides', WHERE WHAT IT READS IS OF BULK AT MOST 1048576: true; the input reads as it did. -/
def gateDecidesUptoRow : OpenClaim := { program := "ytfajjgkhanjcfaa", sum := "03d44e96f1586b03a5149d6cdef8d588846a4530f3e6f450826b39f8e1030da1", func := "skiarea/skiarealaw28.GateDecides", spec := "gateDecides", unfollowed := true, recurses := true, apart := false, narrowed := true }
def GateDecidesUptoSaid : Prop := gateDecidesUptoRow.holds Try.pinned (OpenSpec.upto gateDecidesSpec)

/-- 'skiarealaw28.GateHears', WHERE WHAT IT READS IS OF BULK AT MOST 1048576: true; the input reads as it did. -/
def gateHearsUptoRow : OpenClaim := { program := "ytfajjgkhanjcfaa", sum := "03d44e96f1586b03a5149d6cdef8d588846a4530f3e6f450826b39f8e1030da1", func := "skiarea/skiarealaw28.GateHears", spec := "gateHears", unfollowed := true, recurses := true, apart := false, narrowed := true }
def GateHearsUptoSaid : Prop := gateHearsUptoRow.holds Try.pinned (OpenSpec.upto gateHearsSpec)

/-- 'skiarealaw28.GateExact', WHERE WHAT IT READS IS OF BULK AT MOST 1048576: true; the input reads as it did. -/
def gateExactUptoRow : OpenClaim := { program := "ytfajjgkhanjcfaa", sum := "03d44e96f1586b03a5149d6cdef8d588846a4530f3e6f450826b39f8e1030da1", func := "skiarea/skiarealaw28.GateExact", spec := "gateExact", unfollowed := true, recurses := true, apart := false, narrowed := true }
def GateExactUptoSaid : Prop := gateExactUptoRow.holds Try.pinned (OpenSpec.upto gateExactSpec)

/-- 'skiarealaw28.GateRides', WHERE WHAT IT READS IS OF BULK AT MOST 1048576: true; the input reads as it did. -/
def gateRidesUptoRow : OpenClaim := { program := "ytfajjgkhanjcfaa", sum := "03d44e96f1586b03a5149d6cdef8d588846a4530f3e6f450826b39f8e1030da1", func := "skiarea/skiarealaw28.GateRides", spec := "gateRides", unfollowed := true, recurses := true, apart := false, narrowed := true }
def GateRidesUptoSaid : Prop := gateRidesUptoRow.holds Try.pinned (OpenSpec.upto gateRidesSpec)

/-- 'skiarealaw28.GateRevokes', WHERE WHAT IT READS IS OF BULK AT MOST 1048576: true; the input reads as it did. -/
def gateRevokesUptoRow : OpenClaim := { program := "ytfajjgkhanjcfaa", sum := "03d44e96f1586b03a5149d6cdef8d588846a4530f3e6f450826b39f8e1030da1", func := "skiarea/skiarealaw28.GateRevokes", spec := "gateRevokes", unfollowed := true, recurses := true, apart := false, narrowed := true }
def GateRevokesUptoSaid : Prop := gateRevokesUptoRow.holds Try.pinned (OpenSpec.upto gateRevokesSpec)

end Rows
end Go.Proofs.Ytfajjgkhanjcfaa
