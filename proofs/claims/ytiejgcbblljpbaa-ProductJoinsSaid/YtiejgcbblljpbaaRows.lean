/-
  No cell of these rows narrows 'for every input' (looked for: loops, veiled, ifaces, maps, wideKeys, modest, calm, conditions, laid).
  DERIVED. THE GIVEN ROWS OF THIS SEAT. 7 by the template 'for every input the law returns true; each argument reads behind the call as it read before'; 0 by the template 'total and deterministic' (their statements: YtiejgcbblljpbaaTotals.lean).
  GIVEN WITH THE SEED: the statements are not yours to turn. If you find one false, say at which input.
  Laid BY PROGRAM, IN A SANDBOX (cutbox-rows.mjs): the forced cells as the released guide's own fill.sh prints them over the translation f32eab2ec0bb567b… (all of the seat's roots in one cut). By AI agents, Wed Nov 11 2026. No macro, syntax, notation, axiom, sorry.
-/
import Derived.Test.YtiejgcbblljpbaaChecked
import GoSem.Claim
import GoSem.ClaimJoined
import GoSem.ClaimMapViews
import Derived.JoinedTies
import Derived.KernelRfl
namespace Go.Proofs.Ytiejgcbblljpbaa
/- THE CELL 'sum', in the pinned program and in every row, IS THE sha256 OF THE DUMP (.gsa) THAT YtiejgcbblljpbaaProg.lean LOADS. Nothing in Lean hashes anything: it is a label: what it is worth is what the hold of that sum in a sandbox is worth. -/
noncomputable def Try.pinned : Pinned := { name := "ytiejgcbblljpbaa", sum := "f32eab2ec0bb567bfd6bef167599c0e8a44e660ad68b83fafee343a47d5c694f", checked := Try.checked }
namespace Rows
def none {H : Type} : Left H := { results := [], args := [] }

/-- 'skiarealaw22.ProductRight': WHATEVER THE INPUT: true; the input reads as it did. -/
def productRightSpec : ChangeSpec := { name := "productRight", fn := fun _ => fun
  | [d] => { results := [.lit (.bool true)], args := [d] }
  | _ => none }
def productRightRow : OpenClaim := { program := "ytiejgcbblljpbaa", sum := "f32eab2ec0bb567bfd6bef167599c0e8a44e660ad68b83fafee343a47d5c694f", func := "skiarea/skiarealaw22.ProductRight", spec := "productRight", unfollowed := true, recurses := true, apart := false }
def ProductRightSaid : Prop := productRightRow.holds Try.pinned (OpenSpec.ofChange productRightSpec)

/-- ITS FALSE NEIGHBOUR: 'it returns false'. Refute it at one input. -/
def productRightWrong : ChangeSpec := { name := "productRight", fn := fun _ => fun
  | [d] => { results := [.lit (.bool false)], args := [d] }
  | _ => none }
def ProductRightWrongFalsely : Prop := productRightRow.holds Try.pinned (OpenSpec.ofChange productRightWrong)

/-- 'skiarealaw22.ProductFinds': WHATEVER THE INPUT: true; the input reads as it did. -/
def productFindsSpec : ChangeSpec := { name := "productFinds", fn := fun _ => fun
  | [d1, d2] => { results := [.lit (.bool true)], args := [d1, d2] }
  | _ => none }
def productFindsRow : OpenClaim := { program := "ytiejgcbblljpbaa", sum := "f32eab2ec0bb567bfd6bef167599c0e8a44e660ad68b83fafee343a47d5c694f", func := "skiarea/skiarealaw22.ProductFinds", spec := "productFinds", unfollowed := true, recurses := true, apart := false }
def ProductFindsSaid : Prop := productFindsRow.holds Try.pinned (OpenSpec.ofChange productFindsSpec)

/-- ITS FALSE NEIGHBOUR: 'it returns false'. Refute it at one input. -/
def productFindsWrong : ChangeSpec := { name := "productFinds", fn := fun _ => fun
  | [d1, d2] => { results := [.lit (.bool false)], args := [d1, d2] }
  | _ => none }
def ProductFindsWrongFalsely : Prop := productFindsRow.holds Try.pinned (OpenSpec.ofChange productFindsWrong)

/-- 'skiarealaw22.ProductFits': WHATEVER THE INPUT: true; the input reads as it did. -/
def productFitsSpec : ChangeSpec := { name := "productFits", fn := fun _ => fun
  | [d1, d2] => { results := [.lit (.bool true)], args := [d1, d2] }
  | _ => none }
def productFitsRow : OpenClaim := { program := "ytiejgcbblljpbaa", sum := "f32eab2ec0bb567bfd6bef167599c0e8a44e660ad68b83fafee343a47d5c694f", func := "skiarea/skiarealaw22.ProductFits", spec := "productFits", unfollowed := true, recurses := true, apart := false }
def ProductFitsSaid : Prop := productFitsRow.holds Try.pinned (OpenSpec.ofChange productFitsSpec)

/-- ITS FALSE NEIGHBOUR: 'it returns false'. Refute it at one input. -/
def productFitsWrong : ChangeSpec := { name := "productFits", fn := fun _ => fun
  | [d1, d2] => { results := [.lit (.bool false)], args := [d1, d2] }
  | _ => none }
def ProductFitsWrongFalsely : Prop := productFitsRow.holds Try.pinned (OpenSpec.ofChange productFitsWrong)

/-- 'skiarealaw22.ProductFor': WHATEVER THE INPUT: true; the input reads as it did. -/
def productForSpec : ChangeSpec := { name := "productFor", fn := fun _ => fun
  | [d1, d2, d3] => { results := [.lit (.bool true)], args := [d1, d2, d3] }
  | _ => none }
def productForRow : OpenClaim := { program := "ytiejgcbblljpbaa", sum := "f32eab2ec0bb567bfd6bef167599c0e8a44e660ad68b83fafee343a47d5c694f", func := "skiarea/skiarealaw22.ProductFor", spec := "productFor", unfollowed := true, recurses := true, apart := false }
def ProductForSaid : Prop := productForRow.holds Try.pinned (OpenSpec.ofChange productForSpec)

/-- ITS FALSE NEIGHBOUR: 'it returns false'. Refute it at one input. -/
def productForWrong : ChangeSpec := { name := "productFor", fn := fun _ => fun
  | [d1, d2, d3] => { results := [.lit (.bool false)], args := [d1, d2, d3] }
  | _ => none }
def ProductForWrongFalsely : Prop := productForRow.holds Try.pinned (OpenSpec.ofChange productForWrong)

/-- 'skiarealaw22.ProductLess': WHATEVER THE INPUT: true; the input reads as it did. -/
def productLessSpec : ChangeSpec := { name := "productLess", fn := fun _ => fun
  | [d1, d2, d3, d4] => { results := [.lit (.bool true)], args := [d1, d2, d3, d4] }
  | _ => none }
def productLessRow : OpenClaim := { program := "ytiejgcbblljpbaa", sum := "f32eab2ec0bb567bfd6bef167599c0e8a44e660ad68b83fafee343a47d5c694f", func := "skiarea/skiarealaw22.ProductLess", spec := "productLess", unfollowed := true, recurses := true, apart := false }
def ProductLessSaid : Prop := productLessRow.holds Try.pinned (OpenSpec.ofChange productLessSpec)

/-- ITS FALSE NEIGHBOUR: 'it returns false'. Refute it at one input. -/
def productLessWrong : ChangeSpec := { name := "productLess", fn := fun _ => fun
  | [d1, d2, d3, d4] => { results := [.lit (.bool false)], args := [d1, d2, d3, d4] }
  | _ => none }
def ProductLessWrongFalsely : Prop := productLessRow.holds Try.pinned (OpenSpec.ofChange productLessWrong)

/-- 'skiarealaw22.ProductOwn': WHATEVER THE INPUT: true; the input reads as it did. -/
def productOwnSpec : ChangeSpec := { name := "productOwn", fn := fun _ => fun
  | [d1, d2] => { results := [.lit (.bool true)], args := [d1, d2] }
  | _ => none }
def productOwnRow : OpenClaim := { program := "ytiejgcbblljpbaa", sum := "f32eab2ec0bb567bfd6bef167599c0e8a44e660ad68b83fafee343a47d5c694f", func := "skiarea/skiarealaw22.ProductOwn", spec := "productOwn", unfollowed := true, recurses := true, apart := false }
def ProductOwnSaid : Prop := productOwnRow.holds Try.pinned (OpenSpec.ofChange productOwnSpec)

/-- ITS FALSE NEIGHBOUR: 'it returns false'. Refute it at one input. -/
def productOwnWrong : ChangeSpec := { name := "productOwn", fn := fun _ => fun
  | [d1, d2] => { results := [.lit (.bool false)], args := [d1, d2] }
  | _ => none }
def ProductOwnWrongFalsely : Prop := productOwnRow.holds Try.pinned (OpenSpec.ofChange productOwnWrong)

/-- 'skiarealaw22.ProductJoins': WHATEVER THE INPUT: true; the input reads as it did. -/
def productJoinsSpec : ChangeSpec := { name := "productJoins", fn := fun _ => fun
  | [d1, d2, d3, d4] => { results := [.lit (.bool true)], args := [d1, d2, d3, d4] }
  | _ => none }
def productJoinsRow : OpenClaim := { program := "ytiejgcbblljpbaa", sum := "f32eab2ec0bb567bfd6bef167599c0e8a44e660ad68b83fafee343a47d5c694f", func := "skiarea/skiarealaw22.ProductJoins", spec := "productJoins", unfollowed := true, recurses := true, apart := false }
def ProductJoinsSaid : Prop := productJoinsRow.holds Try.pinned (OpenSpec.ofChange productJoinsSpec)

/-- ITS FALSE NEIGHBOUR: 'it returns false'. Refute it at one input. -/
def productJoinsWrong : ChangeSpec := { name := "productJoins", fn := fun _ => fun
  | [d1, d2, d3, d4] => { results := [.lit (.bool false)], args := [d1, d2, d3, d4] }
  | _ => none }
def ProductJoinsWrongFalsely : Prop := productJoinsRow.holds Try.pinned (OpenSpec.ofChange productJoinsWrong)

/- THE SECOND FORM. 'bulk': how many values and letters a reading holds, each counted each time it is reached (what is shared counts as often as it is met; a slice's spare places count too). A statement '..UptoSaid' is the law's where the arguments, and the package variables that the reading takes, are together of bulk at most 1048576: NARROWER than '..Said'. Prove '..Said' where nothing that the law and all that it calls make is longer than what came in: it says more and counts as full. Else prove '..UptoSaid'. A law counts once. -/
mutual
def uptoBulk {H : Type} : DataW H → Nat
  | .lit (.string bytes) => bytes.length + 1
  | .lit _ => 1
  | .nil => 1
  | .ptr d => uptoBulk d + 1
  | .slice elems spare => uptoBulkAll elems + uptoBulkAll spare + 1
  | .agg parts => uptoBulkAll parts + 1
  | .iface _ d => uptoBulk d + 1
  | .map entries => uptoBulkEntries entries + 1
  | .held _ => 1
def uptoBulkAll {H : Type} : List (DataW H) → Nat
  | [] => 0
  | d :: r => uptoBulk d + uptoBulkAll r
def uptoBulkEntries {H : Type} : List (Lit × DataW H) → Nat
  | [] => 0
  | x :: r => uptoBulkEntry x + uptoBulkEntries r
def uptoBulkEntry {H : Type} : Lit × DataW H → Nat
  | (.string bytes, d) => bytes.length + uptoBulk d + 1
  | (_, d) => uptoBulk d + 1
 end
def uptoSmall : (H : Type) → List (DataW H) → Bool := fun _ ds => decide (uptoBulkAll ds ≤ 1048576)
def OpenSpec.upto (s : _root_.Go.ChangeSpec) : _root_.Go.OpenSpec := { _root_.Go.OpenSpec.ofChange s with cond := some uptoSmall }

/-- 'skiarealaw22.ProductRight', WHERE WHAT IT READS IS OF BULK AT MOST 1048576: true; the input reads as it did. -/
def productRightUptoRow : OpenClaim := { program := "ytiejgcbblljpbaa", sum := "f32eab2ec0bb567bfd6bef167599c0e8a44e660ad68b83fafee343a47d5c694f", func := "skiarea/skiarealaw22.ProductRight", spec := "productRight", unfollowed := true, recurses := true, apart := false, narrowed := true }
def ProductRightUptoSaid : Prop := productRightUptoRow.holds Try.pinned (OpenSpec.upto productRightSpec)

/-- 'skiarealaw22.ProductFinds', WHERE WHAT IT READS IS OF BULK AT MOST 1048576: true; the input reads as it did. -/
def productFindsUptoRow : OpenClaim := { program := "ytiejgcbblljpbaa", sum := "f32eab2ec0bb567bfd6bef167599c0e8a44e660ad68b83fafee343a47d5c694f", func := "skiarea/skiarealaw22.ProductFinds", spec := "productFinds", unfollowed := true, recurses := true, apart := false, narrowed := true }
def ProductFindsUptoSaid : Prop := productFindsUptoRow.holds Try.pinned (OpenSpec.upto productFindsSpec)

/-- 'skiarealaw22.ProductFits', WHERE WHAT IT READS IS OF BULK AT MOST 1048576: true; the input reads as it did. -/
def productFitsUptoRow : OpenClaim := { program := "ytiejgcbblljpbaa", sum := "f32eab2ec0bb567bfd6bef167599c0e8a44e660ad68b83fafee343a47d5c694f", func := "skiarea/skiarealaw22.ProductFits", spec := "productFits", unfollowed := true, recurses := true, apart := false, narrowed := true }
def ProductFitsUptoSaid : Prop := productFitsUptoRow.holds Try.pinned (OpenSpec.upto productFitsSpec)

/-- 'skiarealaw22.ProductFor', WHERE WHAT IT READS IS OF BULK AT MOST 1048576: true; the input reads as it did. -/
def productForUptoRow : OpenClaim := { program := "ytiejgcbblljpbaa", sum := "f32eab2ec0bb567bfd6bef167599c0e8a44e660ad68b83fafee343a47d5c694f", func := "skiarea/skiarealaw22.ProductFor", spec := "productFor", unfollowed := true, recurses := true, apart := false, narrowed := true }
def ProductForUptoSaid : Prop := productForUptoRow.holds Try.pinned (OpenSpec.upto productForSpec)

/-- 'skiarealaw22.ProductLess', WHERE WHAT IT READS IS OF BULK AT MOST 1048576: true; the input reads as it did. -/
def productLessUptoRow : OpenClaim := { program := "ytiejgcbblljpbaa", sum := "f32eab2ec0bb567bfd6bef167599c0e8a44e660ad68b83fafee343a47d5c694f", func := "skiarea/skiarealaw22.ProductLess", spec := "productLess", unfollowed := true, recurses := true, apart := false, narrowed := true }
def ProductLessUptoSaid : Prop := productLessUptoRow.holds Try.pinned (OpenSpec.upto productLessSpec)

/-- 'skiarealaw22.ProductOwn', WHERE WHAT IT READS IS OF BULK AT MOST 1048576: true; the input reads as it did. -/
def productOwnUptoRow : OpenClaim := { program := "ytiejgcbblljpbaa", sum := "f32eab2ec0bb567bfd6bef167599c0e8a44e660ad68b83fafee343a47d5c694f", func := "skiarea/skiarealaw22.ProductOwn", spec := "productOwn", unfollowed := true, recurses := true, apart := false, narrowed := true }
def ProductOwnUptoSaid : Prop := productOwnUptoRow.holds Try.pinned (OpenSpec.upto productOwnSpec)

/-- 'skiarealaw22.ProductJoins', WHERE WHAT IT READS IS OF BULK AT MOST 1048576: true; the input reads as it did. -/
def productJoinsUptoRow : OpenClaim := { program := "ytiejgcbblljpbaa", sum := "f32eab2ec0bb567bfd6bef167599c0e8a44e660ad68b83fafee343a47d5c694f", func := "skiarea/skiarealaw22.ProductJoins", spec := "productJoins", unfollowed := true, recurses := true, apart := false, narrowed := true }
def ProductJoinsUptoSaid : Prop := productJoinsUptoRow.holds Try.pinned (OpenSpec.upto productJoinsSpec)

end Rows
end Go.Proofs.Ytiejgcbblljpbaa
