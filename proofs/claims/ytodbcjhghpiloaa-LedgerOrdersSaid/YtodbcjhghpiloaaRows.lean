/-
  No cell of these rows narrows 'for every input' (looked for: loops, veiled, ifaces, maps, wideKeys, modest, calm, conditions, laid).
  DERIVED. THE GIVEN ROWS OF THIS SEAT. 7 by the template 'for every input the law returns true; each argument reads behind the call as it read before'; 0 by the template 'total and deterministic' (their statements: YtodbcjhghpiloaaTotals.lean).
  GIVEN WITH THE SEED: the statements are not yours to turn. If you find one false, say at which input.
  Laid BY PROGRAM, IN A SANDBOX (cutbox-rows.mjs): the forced cells as the released guide's own fill.sh prints them over the translation 02076262f54d79da… (all of the seat's roots in one cut). By AI agents, Wed Nov 11 2026. No macro, syntax, notation, axiom, sorry.
-/
import Derived.Test.YtodbcjhghpiloaaChecked
import GoSem.Claim
import GoSem.ClaimJoined
import GoSem.ClaimMapViews
import Derived.JoinedTies
import Derived.KernelRfl
namespace Go.Proofs.Ytodbcjhghpiloaa
/- THE CELL 'sum', in the pinned program and in every row, IS THE sha256 OF THE DUMP (.gsa) THAT YtodbcjhghpiloaaProg.lean LOADS. Nothing in Lean hashes anything: it is a label: what it is worth is what the hold of that sum in a sandbox is worth. -/
noncomputable def Try.pinned : Pinned := { name := "ytodbcjhghpiloaa", sum := "02076262f54d79da9b9d099ca916db918d041333673513cdb44e59af4dfc677d", checked := Try.checked }
namespace Rows
def none {H : Type} : Left H := { results := [], args := [] }

/-- 'skiarealaw09.LedgerRight': WHATEVER THE INPUT: true; the input reads as it did. -/
def ledgerRightSpec : ChangeSpec := { name := "ledgerRight", fn := fun _ => fun
  | [d] => { results := [.lit (.bool true)], args := [d] }
  | _ => none }
def ledgerRightRow : OpenClaim := { program := "ytodbcjhghpiloaa", sum := "02076262f54d79da9b9d099ca916db918d041333673513cdb44e59af4dfc677d", func := "skiarea/skiarealaw09.LedgerRight", spec := "ledgerRight", recurses := true, apart := false }
def LedgerRightSaid : Prop := ledgerRightRow.holds Try.pinned (OpenSpec.ofChange ledgerRightSpec)

/-- ITS FALSE NEIGHBOUR: 'it returns false'. Refute it at one input. -/
def ledgerRightWrong : ChangeSpec := { name := "ledgerRight", fn := fun _ => fun
  | [d] => { results := [.lit (.bool false)], args := [d] }
  | _ => none }
def LedgerRightWrongFalsely : Prop := ledgerRightRow.holds Try.pinned (OpenSpec.ofChange ledgerRightWrong)

/-- 'skiarealaw09.LedgerPosts': WHATEVER THE INPUT: true; the input reads as it did. -/
def ledgerPostsSpec : ChangeSpec := { name := "ledgerPosts", fn := fun _ => fun
  | [d1, d2] => { results := [.lit (.bool true)], args := [d1, d2] }
  | _ => none }
def ledgerPostsRow : OpenClaim := { program := "ytodbcjhghpiloaa", sum := "02076262f54d79da9b9d099ca916db918d041333673513cdb44e59af4dfc677d", func := "skiarea/skiarealaw09.LedgerPosts", spec := "ledgerPosts", recurses := true, apart := false }
def LedgerPostsSaid : Prop := ledgerPostsRow.holds Try.pinned (OpenSpec.ofChange ledgerPostsSpec)

/-- ITS FALSE NEIGHBOUR: 'it returns false'. Refute it at one input. -/
def ledgerPostsWrong : ChangeSpec := { name := "ledgerPosts", fn := fun _ => fun
  | [d1, d2] => { results := [.lit (.bool false)], args := [d1, d2] }
  | _ => none }
def LedgerPostsWrongFalsely : Prop := ledgerPostsRow.holds Try.pinned (OpenSpec.ofChange ledgerPostsWrong)

/-- 'skiarealaw09.LedgerBalances': WHATEVER THE INPUT: true; the input reads as it did. -/
def ledgerBalancesSpec : ChangeSpec := { name := "ledgerBalances", fn := fun _ => fun
  | [d1, d2] => { results := [.lit (.bool true)], args := [d1, d2] }
  | _ => none }
def ledgerBalancesRow : OpenClaim := { program := "ytodbcjhghpiloaa", sum := "02076262f54d79da9b9d099ca916db918d041333673513cdb44e59af4dfc677d", func := "skiarea/skiarealaw09.LedgerBalances", spec := "ledgerBalances", recurses := true, apart := false }
def LedgerBalancesSaid : Prop := ledgerBalancesRow.holds Try.pinned (OpenSpec.ofChange ledgerBalancesSpec)

/-- ITS FALSE NEIGHBOUR: 'it returns false'. Refute it at one input. -/
def ledgerBalancesWrong : ChangeSpec := { name := "ledgerBalances", fn := fun _ => fun
  | [d1, d2] => { results := [.lit (.bool false)], args := [d1, d2] }
  | _ => none }
def LedgerBalancesWrongFalsely : Prop := ledgerBalancesRow.holds Try.pinned (OpenSpec.ofChange ledgerBalancesWrong)

/-- 'skiarealaw09.LedgerLists': WHATEVER THE INPUT: true; the input reads as it did. -/
def ledgerListsSpec : ChangeSpec := { name := "ledgerLists", fn := fun _ => fun
  | [d1, d2] => { results := [.lit (.bool true)], args := [d1, d2] }
  | _ => none }
def ledgerListsRow : OpenClaim := { program := "ytodbcjhghpiloaa", sum := "02076262f54d79da9b9d099ca916db918d041333673513cdb44e59af4dfc677d", func := "skiarea/skiarealaw09.LedgerLists", spec := "ledgerLists", recurses := true, apart := false }
def LedgerListsSaid : Prop := ledgerListsRow.holds Try.pinned (OpenSpec.ofChange ledgerListsSpec)

/-- ITS FALSE NEIGHBOUR: 'it returns false'. Refute it at one input. -/
def ledgerListsWrong : ChangeSpec := { name := "ledgerLists", fn := fun _ => fun
  | [d1, d2] => { results := [.lit (.bool false)], args := [d1, d2] }
  | _ => none }
def LedgerListsWrongFalsely : Prop := ledgerListsRow.holds Try.pinned (OpenSpec.ofChange ledgerListsWrong)

/-- 'skiarealaw09.LedgerZero': WHATEVER THE INPUT: true; the input reads as it did. -/
def ledgerZeroSpec : ChangeSpec := { name := "ledgerZero", fn := fun _ => fun
  | [d1, d2] => { results := [.lit (.bool true)], args := [d1, d2] }
  | _ => none }
def ledgerZeroRow : OpenClaim := { program := "ytodbcjhghpiloaa", sum := "02076262f54d79da9b9d099ca916db918d041333673513cdb44e59af4dfc677d", func := "skiarea/skiarealaw09.LedgerZero", spec := "ledgerZero", recurses := true, apart := false }
def LedgerZeroSaid : Prop := ledgerZeroRow.holds Try.pinned (OpenSpec.ofChange ledgerZeroSpec)

/-- ITS FALSE NEIGHBOUR: 'it returns false'. Refute it at one input. -/
def ledgerZeroWrong : ChangeSpec := { name := "ledgerZero", fn := fun _ => fun
  | [d1, d2] => { results := [.lit (.bool false)], args := [d1, d2] }
  | _ => none }
def LedgerZeroWrongFalsely : Prop := ledgerZeroRow.holds Try.pinned (OpenSpec.ofChange ledgerZeroWrong)

/-- 'skiarealaw09.LedgerMoves': WHATEVER THE INPUT: true; the input reads as it did. -/
def ledgerMovesSpec : ChangeSpec := { name := "ledgerMoves", fn := fun _ => fun
  | [d1, d2, d3] => { results := [.lit (.bool true)], args := [d1, d2, d3] }
  | _ => none }
def ledgerMovesRow : OpenClaim := { program := "ytodbcjhghpiloaa", sum := "02076262f54d79da9b9d099ca916db918d041333673513cdb44e59af4dfc677d", func := "skiarea/skiarealaw09.LedgerMoves", spec := "ledgerMoves", recurses := true, apart := false }
def LedgerMovesSaid : Prop := ledgerMovesRow.holds Try.pinned (OpenSpec.ofChange ledgerMovesSpec)

/-- ITS FALSE NEIGHBOUR: 'it returns false'. Refute it at one input. -/
def ledgerMovesWrong : ChangeSpec := { name := "ledgerMoves", fn := fun _ => fun
  | [d1, d2, d3] => { results := [.lit (.bool false)], args := [d1, d2, d3] }
  | _ => none }
def LedgerMovesWrongFalsely : Prop := ledgerMovesRow.holds Try.pinned (OpenSpec.ofChange ledgerMovesWrong)

/-- 'skiarealaw09.LedgerOrders': WHATEVER THE INPUT: true; the input reads as it did. -/
def ledgerOrdersSpec : ChangeSpec := { name := "ledgerOrders", fn := fun _ => fun
  | [d1, d2, d3] => { results := [.lit (.bool true)], args := [d1, d2, d3] }
  | _ => none }
def ledgerOrdersRow : OpenClaim := { program := "ytodbcjhghpiloaa", sum := "02076262f54d79da9b9d099ca916db918d041333673513cdb44e59af4dfc677d", func := "skiarea/skiarealaw09.LedgerOrders", spec := "ledgerOrders", recurses := true, apart := false }
def LedgerOrdersSaid : Prop := ledgerOrdersRow.holds Try.pinned (OpenSpec.ofChange ledgerOrdersSpec)

/-- ITS FALSE NEIGHBOUR: 'it returns false'. Refute it at one input. -/
def ledgerOrdersWrong : ChangeSpec := { name := "ledgerOrders", fn := fun _ => fun
  | [d1, d2, d3] => { results := [.lit (.bool false)], args := [d1, d2, d3] }
  | _ => none }
def LedgerOrdersWrongFalsely : Prop := ledgerOrdersRow.holds Try.pinned (OpenSpec.ofChange ledgerOrdersWrong)

/- THE SECOND FORM. 'bulk': how many values and letters a reading holds, each counted each time it is reached (what is shared counts as often as it is met; a slice's spare places count too). A statement '..UptoSaid' is the law's where the arguments, and the package variables that the reading takes, are together of bulk at most 1048576: NARROWER than '..Said'. Prove '..Said' where nothing that the law and all that it calls make is longer than what came in: it says more and counts as full. Else prove '..UptoSaid'. A law counts once. -/
mutual
def uptoBulk {H : Type} : DataW H → Nat
  | .lit (.string bytes) => bytes.length + 1
  | .lit _ => 1
  | .nil => 1
  | .ptr d => uptoBulk d + 1
  | .slice elems spare => uptoBulkAll elems + uptoBulkAll spare + 1
  | .agg parts => uptoBulkAll parts + 1
  | .iface _ d => uptoBulk d + 1
  | .map entries => uptoBulkEntries entries + 1
  | .held _ => 1
def uptoBulkAll {H : Type} : List (DataW H) → Nat
  | [] => 0
  | d :: r => uptoBulk d + uptoBulkAll r
def uptoBulkEntries {H : Type} : List (Lit × DataW H) → Nat
  | [] => 0
  | x :: r => uptoBulkEntry x + uptoBulkEntries r
def uptoBulkEntry {H : Type} : Lit × DataW H → Nat
  | (.string bytes, d) => bytes.length + uptoBulk d + 1
  | (_, d) => uptoBulk d + 1
 end
def uptoSmall : (H : Type) → List (DataW H) → Bool := fun _ ds => decide (uptoBulkAll ds ≤ 1048576)
def OpenSpec.upto (s : _root_.Go.ChangeSpec) : _root_.Go.OpenSpec := { _root_.Go.OpenSpec.ofChange s with cond := some uptoSmall }

/-- 'skiarealaw09.LedgerRight', WHERE WHAT IT READS IS OF BULK AT MOST 1048576: true; the input reads as it did. -/
def ledgerRightUptoRow : OpenClaim := { program := "ytodbcjhghpiloaa", sum := "02076262f54d79da9b9d099ca916db918d041333673513cdb44e59af4dfc677d", func := "skiarea/skiarealaw09.LedgerRight", spec := "ledgerRight", recurses := true, apart := false, narrowed := true }
def LedgerRightUptoSaid : Prop := ledgerRightUptoRow.holds Try.pinned (OpenSpec.upto ledgerRightSpec)

/-- 'skiarealaw09.LedgerPosts', WHERE WHAT IT READS IS OF BULK AT MOST 1048576: true; the input reads as it did. -/
def ledgerPostsUptoRow : OpenClaim := { program := "ytodbcjhghpiloaa", sum := "02076262f54d79da9b9d099ca916db918d041333673513cdb44e59af4dfc677d", func := "skiarea/skiarealaw09.LedgerPosts", spec := "ledgerPosts", recurses := true, apart := false, narrowed := true }
def LedgerPostsUptoSaid : Prop := ledgerPostsUptoRow.holds Try.pinned (OpenSpec.upto ledgerPostsSpec)

/-- 'skiarealaw09.LedgerBalances', WHERE WHAT IT READS IS OF BULK AT MOST 1048576: true; the input reads as it did. -/
def ledgerBalancesUptoRow : OpenClaim := { program := "ytodbcjhghpiloaa", sum := "02076262f54d79da9b9d099ca916db918d041333673513cdb44e59af4dfc677d", func := "skiarea/skiarealaw09.LedgerBalances", spec := "ledgerBalances", recurses := true, apart := false, narrowed := true }
def LedgerBalancesUptoSaid : Prop := ledgerBalancesUptoRow.holds Try.pinned (OpenSpec.upto ledgerBalancesSpec)

/-- 'skiarealaw09.LedgerLists', WHERE WHAT IT READS IS OF BULK AT MOST 1048576: true; the input reads as it did. -/
def ledgerListsUptoRow : OpenClaim := { program := "ytodbcjhghpiloaa", sum := "02076262f54d79da9b9d099ca916db918d041333673513cdb44e59af4dfc677d", func := "skiarea/skiarealaw09.LedgerLists", spec := "ledgerLists", recurses := true, apart := false, narrowed := true }
def LedgerListsUptoSaid : Prop := ledgerListsUptoRow.holds Try.pinned (OpenSpec.upto ledgerListsSpec)

/-- 'skiarealaw09.LedgerZero', WHERE WHAT IT READS IS OF BULK AT MOST 1048576: true; the input reads as it did. -/
def ledgerZeroUptoRow : OpenClaim := { program := "ytodbcjhghpiloaa", sum := "02076262f54d79da9b9d099ca916db918d041333673513cdb44e59af4dfc677d", func := "skiarea/skiarealaw09.LedgerZero", spec := "ledgerZero", recurses := true, apart := false, narrowed := true }
def LedgerZeroUptoSaid : Prop := ledgerZeroUptoRow.holds Try.pinned (OpenSpec.upto ledgerZeroSpec)

/-- 'skiarealaw09.LedgerMoves', WHERE WHAT IT READS IS OF BULK AT MOST 1048576: true; the input reads as it did. -/
def ledgerMovesUptoRow : OpenClaim := { program := "ytodbcjhghpiloaa", sum := "02076262f54d79da9b9d099ca916db918d041333673513cdb44e59af4dfc677d", func := "skiarea/skiarealaw09.LedgerMoves", spec := "ledgerMoves", recurses := true, apart := false, narrowed := true }
def LedgerMovesUptoSaid : Prop := ledgerMovesUptoRow.holds Try.pinned (OpenSpec.upto ledgerMovesSpec)

/-- 'skiarealaw09.LedgerOrders', WHERE WHAT IT READS IS OF BULK AT MOST 1048576: true; the input reads as it did. -/
def ledgerOrdersUptoRow : OpenClaim := { program := "ytodbcjhghpiloaa", sum := "02076262f54d79da9b9d099ca916db918d041333673513cdb44e59af4dfc677d", func := "skiarea/skiarealaw09.LedgerOrders", spec := "ledgerOrders", recurses := true, apart := false, narrowed := true }
def LedgerOrdersUptoSaid : Prop := ledgerOrdersUptoRow.holds Try.pinned (OpenSpec.upto ledgerOrdersSpec)

end Rows
end Go.Proofs.Ytodbcjhghpiloaa
