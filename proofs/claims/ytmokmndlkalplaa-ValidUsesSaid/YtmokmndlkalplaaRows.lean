/-
  No cell of these rows narrows 'for every input' (looked for: loops, veiled, ifaces, maps, wideKeys, modest, calm, conditions, laid).
  DERIVED. THE GIVEN ROWS OF THIS SEAT. 7 by the template 'for every input the law returns true; each argument reads behind the call as it read before'; 0 by the template 'total and deterministic' (their statements: YtmokmndlkalplaaTotals.lean).
  GIVEN WITH THE SEED: the statements are not yours to turn. If you find one false, say at which input.
  Laid BY PROGRAM, IN A SANDBOX (cutbox-rows.mjs): the forced cells as the released guide's own fill.sh prints them over the translation 351f674d29d8ae3c… (all of the seat's roots in one cut). By AI agents, Wed Nov 11 2026. No macro, syntax, notation, axiom, sorry.
-/
import Derived.Test.YtmokmndlkalplaaChecked
import GoSem.Claim
import GoSem.ClaimJoined
import GoSem.ClaimMapViews
import Derived.JoinedTies
import Derived.KernelRfl
namespace Go.Proofs.Ytmokmndlkalplaa
/- THE CELL 'sum', in the pinned program and in every row, IS THE sha256 OF THE DUMP (.gsa) THAT YtmokmndlkalplaaProg.lean LOADS. Nothing in Lean hashes anything: it is a label: what it is worth is what the hold of that sum in a sandbox is worth. -/
noncomputable def Try.pinned : Pinned := { name := "ytmokmndlkalplaa", sum := "351f674d29d8ae3ce29f1773689d723478918d900b6fa032d9f30308819fbee1", checked := Try.checked }
namespace Rows
def none {H : Type} : Left H := { results := [], args := [] }

/-- 'skiarealaw26.ValidWhys': WHATEVER THE INPUT: true; the input reads as it did. -/
def validWhysSpec : ChangeSpec := { name := "validWhys", fn := fun _ => fun
  | [d1, d2, d3, d4, d5] => { results := [.lit (.bool true)], args := [d1, d2, d3, d4, d5] }
  | _ => none }
def validWhysRow : OpenClaim := { program := "ytmokmndlkalplaa", sum := "351f674d29d8ae3ce29f1773689d723478918d900b6fa032d9f30308819fbee1", func := "skiarea/skiarealaw26.ValidWhys", spec := "validWhys", apart := false }
def ValidWhysSaid : Prop := validWhysRow.holds Try.pinned (OpenSpec.ofChange validWhysSpec)

/-- ITS FALSE NEIGHBOUR: 'it returns false'. Refute it at one input. -/
def validWhysWrong : ChangeSpec := { name := "validWhys", fn := fun _ => fun
  | [d1, d2, d3, d4, d5] => { results := [.lit (.bool false)], args := [d1, d2, d3, d4, d5] }
  | _ => none }
def ValidWhysWrongFalsely : Prop := validWhysRow.holds Try.pinned (OpenSpec.ofChange validWhysWrong)

/-- 'skiarealaw26.ValidUsed': WHATEVER THE INPUT: true; the input reads as it did. -/
def validUsedSpec : ChangeSpec := { name := "validUsed", fn := fun _ => fun
  | [d1, d2, d3, d4, d5] => { results := [.lit (.bool true)], args := [d1, d2, d3, d4, d5] }
  | _ => none }
def validUsedRow : OpenClaim := { program := "ytmokmndlkalplaa", sum := "351f674d29d8ae3ce29f1773689d723478918d900b6fa032d9f30308819fbee1", func := "skiarea/skiarealaw26.ValidUsed", spec := "validUsed", apart := false }
def ValidUsedSaid : Prop := validUsedRow.holds Try.pinned (OpenSpec.ofChange validUsedSpec)

/-- ITS FALSE NEIGHBOUR: 'it returns false'. Refute it at one input. -/
def validUsedWrong : ChangeSpec := { name := "validUsed", fn := fun _ => fun
  | [d1, d2, d3, d4, d5] => { results := [.lit (.bool false)], args := [d1, d2, d3, d4, d5] }
  | _ => none }
def ValidUsedWrongFalsely : Prop := validUsedRow.holds Try.pinned (OpenSpec.ofChange validUsedWrong)

/-- 'skiarealaw26.ValidTimes': WHATEVER THE INPUT: true; the input reads as it did. -/
def validTimesSpec : ChangeSpec := { name := "validTimes", fn := fun _ => fun
  | [d1, d2, d3] => { results := [.lit (.bool true)], args := [d1, d2, d3] }
  | _ => none }
def validTimesRow : OpenClaim := { program := "ytmokmndlkalplaa", sum := "351f674d29d8ae3ce29f1773689d723478918d900b6fa032d9f30308819fbee1", func := "skiarea/skiarealaw26.ValidTimes", spec := "validTimes", apart := false }
def ValidTimesSaid : Prop := validTimesRow.holds Try.pinned (OpenSpec.ofChange validTimesSpec)

/-- ITS FALSE NEIGHBOUR: 'it returns false'. Refute it at one input. -/
def validTimesWrong : ChangeSpec := { name := "validTimes", fn := fun _ => fun
  | [d1, d2, d3] => { results := [.lit (.bool false)], args := [d1, d2, d3] }
  | _ => none }
def ValidTimesWrongFalsely : Prop := validTimesRow.holds Try.pinned (OpenSpec.ofChange validTimesWrong)

/-- 'skiarealaw26.ValidUses': WHATEVER THE INPUT: true; the input reads as it did. -/
def validUsesSpec : ChangeSpec := { name := "validUses", fn := fun _ => fun
  | [d1, d2] => { results := [.lit (.bool true)], args := [d1, d2] }
  | _ => none }
def validUsesRow : OpenClaim := { program := "ytmokmndlkalplaa", sum := "351f674d29d8ae3ce29f1773689d723478918d900b6fa032d9f30308819fbee1", func := "skiarea/skiarealaw26.ValidUses", spec := "validUses", apart := false }
def ValidUsesSaid : Prop := validUsesRow.holds Try.pinned (OpenSpec.ofChange validUsesSpec)

/-- ITS FALSE NEIGHBOUR: 'it returns false'. Refute it at one input. -/
def validUsesWrong : ChangeSpec := { name := "validUses", fn := fun _ => fun
  | [d1, d2] => { results := [.lit (.bool false)], args := [d1, d2] }
  | _ => none }
def ValidUsesWrongFalsely : Prop := validUsesRow.holds Try.pinned (OpenSpec.ofChange validUsesWrong)

/-- 'skiarealaw26.ValidEnds': WHATEVER THE INPUT: true; the input reads as it did. -/
def validEndsSpec : ChangeSpec := { name := "validEnds", fn := fun _ => fun
  | [d1, d2, d3, d4, d5] => { results := [.lit (.bool true)], args := [d1, d2, d3, d4, d5] }
  | _ => none }
def validEndsRow : OpenClaim := { program := "ytmokmndlkalplaa", sum := "351f674d29d8ae3ce29f1773689d723478918d900b6fa032d9f30308819fbee1", func := "skiarea/skiarealaw26.ValidEnds", spec := "validEnds", apart := false }
def ValidEndsSaid : Prop := validEndsRow.holds Try.pinned (OpenSpec.ofChange validEndsSpec)

/-- ITS FALSE NEIGHBOUR: 'it returns false'. Refute it at one input. -/
def validEndsWrong : ChangeSpec := { name := "validEnds", fn := fun _ => fun
  | [d1, d2, d3, d4, d5] => { results := [.lit (.bool false)], args := [d1, d2, d3, d4, d5] }
  | _ => none }
def ValidEndsWrongFalsely : Prop := validEndsRow.holds Try.pinned (OpenSpec.ofChange validEndsWrong)

/-- 'skiarealaw26.ValidBack': WHATEVER THE INPUT: true; the input reads as it did. -/
def validBackSpec : ChangeSpec := { name := "validBack", fn := fun _ => fun
  | [d1, d2, d3, d4] => { results := [.lit (.bool true)], args := [d1, d2, d3, d4] }
  | _ => none }
def validBackRow : OpenClaim := { program := "ytmokmndlkalplaa", sum := "351f674d29d8ae3ce29f1773689d723478918d900b6fa032d9f30308819fbee1", func := "skiarea/skiarealaw26.ValidBack", spec := "validBack", apart := false }
def ValidBackSaid : Prop := validBackRow.holds Try.pinned (OpenSpec.ofChange validBackSpec)

/-- ITS FALSE NEIGHBOUR: 'it returns false'. Refute it at one input. -/
def validBackWrong : ChangeSpec := { name := "validBack", fn := fun _ => fun
  | [d1, d2, d3, d4] => { results := [.lit (.bool false)], args := [d1, d2, d3, d4] }
  | _ => none }
def ValidBackWrongFalsely : Prop := validBackRow.holds Try.pinned (OpenSpec.ofChange validBackWrong)

/-- 'skiarealaw26.ValidStays': WHATEVER THE INPUT: true; the input reads as it did. -/
def validStaysSpec : ChangeSpec := { name := "validStays", fn := fun _ => fun
  | [d1, d2, d3, d4, d5] => { results := [.lit (.bool true)], args := [d1, d2, d3, d4, d5] }
  | _ => none }
def validStaysRow : OpenClaim := { program := "ytmokmndlkalplaa", sum := "351f674d29d8ae3ce29f1773689d723478918d900b6fa032d9f30308819fbee1", func := "skiarea/skiarealaw26.ValidStays", spec := "validStays", apart := false }
def ValidStaysSaid : Prop := validStaysRow.holds Try.pinned (OpenSpec.ofChange validStaysSpec)

/-- ITS FALSE NEIGHBOUR: 'it returns false'. Refute it at one input. -/
def validStaysWrong : ChangeSpec := { name := "validStays", fn := fun _ => fun
  | [d1, d2, d3, d4, d5] => { results := [.lit (.bool false)], args := [d1, d2, d3, d4, d5] }
  | _ => none }
def ValidStaysWrongFalsely : Prop := validStaysRow.holds Try.pinned (OpenSpec.ofChange validStaysWrong)

/- THE SECOND FORM. 'bulk': how many values and letters a reading holds, each counted each time it is reached (what is shared counts as often as it is met; a slice's spare places count too). A statement '..UptoSaid' is the law's where the arguments, and the package variables that the reading takes, are together of bulk at most 1048576: NARROWER than '..Said'. Prove '..Said' where nothing that the law and all that it calls make is longer than what came in: it says more and counts as full. Else prove '..UptoSaid'. A law counts once. -/
mutual
def uptoBulk {H : Type} : DataW H → Nat
  | .lit (.string bytes) => bytes.length + 1
  | .lit _ => 1
  | .nil => 1
  | .ptr d => uptoBulk d + 1
  | .slice elems spare => uptoBulkAll elems + uptoBulkAll spare + 1
  | .agg parts => uptoBulkAll parts + 1
  | .iface _ d => uptoBulk d + 1
  | .map entries => uptoBulkEntries entries + 1
  | .held _ => 1
def uptoBulkAll {H : Type} : List (DataW H) → Nat
  | [] => 0
  | d :: r => uptoBulk d + uptoBulkAll r
def uptoBulkEntries {H : Type} : List (Lit × DataW H) → Nat
  | [] => 0
  | x :: r => uptoBulkEntry x + uptoBulkEntries r
def uptoBulkEntry {H : Type} : Lit × DataW H → Nat
  | (.string bytes, d) => bytes.length + uptoBulk d + 1
  | (_, d) => uptoBulk d + 1
 end
def uptoSmall : (H : Type) → List (DataW H) → Bool := fun _ ds => decide (uptoBulkAll ds ≤ 1048576)
def OpenSpec.upto (s : _root_.Go.ChangeSpec) : _root_.Go.OpenSpec := { _root_.Go.OpenSpec.ofChange s with cond := some uptoSmall }

/-- 'skiarealaw26.ValidWhys', WHERE WHAT IT READS IS OF BULK AT MOST 1048576: true; the input reads as it did. -/
def validWhysUptoRow : OpenClaim := { program := "ytmokmndlkalplaa", sum := "351f674d29d8ae3ce29f1773689d723478918d900b6fa032d9f30308819fbee1", func := "skiarea/skiarealaw26.ValidWhys", spec := "validWhys", apart := false, narrowed := true }
def ValidWhysUptoSaid : Prop := validWhysUptoRow.holds Try.pinned (OpenSpec.upto validWhysSpec)

/-- 'skiarealaw26.ValidUsed', WHERE WHAT IT READS IS OF BULK AT MOST 1048576: true; the input reads as it did. -/
def validUsedUptoRow : OpenClaim := { program := "ytmokmndlkalplaa", sum := "351f674d29d8ae3ce29f1773689d723478918d900b6fa032d9f30308819fbee1", func := "skiarea/skiarealaw26.ValidUsed", spec := "validUsed", apart := false, narrowed := true }
def ValidUsedUptoSaid : Prop := validUsedUptoRow.holds Try.pinned (OpenSpec.upto validUsedSpec)

/-- 'skiarealaw26.ValidTimes', WHERE WHAT IT READS IS OF BULK AT MOST 1048576: true; the input reads as it did. -/
def validTimesUptoRow : OpenClaim := { program := "ytmokmndlkalplaa", sum := "351f674d29d8ae3ce29f1773689d723478918d900b6fa032d9f30308819fbee1", func := "skiarea/skiarealaw26.ValidTimes", spec := "validTimes", apart := false, narrowed := true }
def ValidTimesUptoSaid : Prop := validTimesUptoRow.holds Try.pinned (OpenSpec.upto validTimesSpec)

/-- 'skiarealaw26.ValidUses', WHERE WHAT IT READS IS OF BULK AT MOST 1048576: true; the input reads as it did. -/
def validUsesUptoRow : OpenClaim := { program := "ytmokmndlkalplaa", sum := "351f674d29d8ae3ce29f1773689d723478918d900b6fa032d9f30308819fbee1", func := "skiarea/skiarealaw26.ValidUses", spec := "validUses", apart := false, narrowed := true }
def ValidUsesUptoSaid : Prop := validUsesUptoRow.holds Try.pinned (OpenSpec.upto validUsesSpec)

/-- 'skiarealaw26.ValidEnds', WHERE WHAT IT READS IS OF BULK AT MOST 1048576: true; the input reads as it did. -/
def validEndsUptoRow : OpenClaim := { program := "ytmokmndlkalplaa", sum := "351f674d29d8ae3ce29f1773689d723478918d900b6fa032d9f30308819fbee1", func := "skiarea/skiarealaw26.ValidEnds", spec := "validEnds", apart := false, narrowed := true }
def ValidEndsUptoSaid : Prop := validEndsUptoRow.holds Try.pinned (OpenSpec.upto validEndsSpec)

/-- 'skiarealaw26.ValidBack', WHERE WHAT IT READS IS OF BULK AT MOST 1048576: true; the input reads as it did. -/
def validBackUptoRow : OpenClaim := { program := "ytmokmndlkalplaa", sum := "351f674d29d8ae3ce29f1773689d723478918d900b6fa032d9f30308819fbee1", func := "skiarea/skiarealaw26.ValidBack", spec := "validBack", apart := false, narrowed := true }
def ValidBackUptoSaid : Prop := validBackUptoRow.holds Try.pinned (OpenSpec.upto validBackSpec)

/-- 'skiarealaw26.ValidStays', WHERE WHAT IT READS IS OF BULK AT MOST 1048576: true; the input reads as it did. -/
def validStaysUptoRow : OpenClaim := { program := "ytmokmndlkalplaa", sum := "351f674d29d8ae3ce29f1773689d723478918d900b6fa032d9f30308819fbee1", func := "skiarea/skiarealaw26.ValidStays", spec := "validStays", apart := false, narrowed := true }
def ValidStaysUptoSaid : Prop := validStaysUptoRow.holds Try.pinned (OpenSpec.upto validStaysSpec)

end Rows
end Go.Proofs.Ytmokmndlkalplaa
