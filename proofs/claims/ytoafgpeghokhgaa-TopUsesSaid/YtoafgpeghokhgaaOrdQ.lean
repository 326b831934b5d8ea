/- A region that draws its order: what the class asks, shown once for a run of plain operations. -/
import Derived.Test.YtoafgpeghokhgaaOrd
namespace Go.Proofs.Ytoafgpeghokhgaa
set_option linter.unusedSimpArgs false
set_option linter.unusedVariables false
open Go.RowKit
section
variable {P : Program} {ops : Array Oper} {Q : Exit → Act → World → Prop} {S : World → Prop}
theorem wpAnyH_keep {fuel : Nat} {listed : Array Bool} {a : Act} {w : World} (hS : S w) (h : Hid (S w) → wpAnyH P .any ops Q S fuel listed a w) : wpAnyH P .any ops Q S fuel listed a w := h (Lib.hid hS)
end
end Go.Proofs.Ytoafgpeghokhgaa
