/- Products: the program's checks of one product; ages. -/
import Derived.Test.YtfajjgkhanjcfaaGreatRight22
import Derived.Test.YtfajjgkhanjcfaaGreatClockR
namespace Go.Proofs.YtfajjgkhanjcfaaGreat
set_option linter.unusedSimpArgs false
set_option linter.unusedVariables false
open Go.RowKit
def ageF (p : PD) (a : Int) : Bool := decide (p.least ≤ a) && decide (a ≤ p.most)
end Go.Proofs.YtfajjgkhanjcfaaGreat
