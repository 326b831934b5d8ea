/- The program's check of weekly hours. -/
import Derived.Test.YtfajjgkhanjcfaaGreatClock
import Derived.Test.YtfajjgkhanjcfaaGreatMA
namespace Go.Proofs.YtfajjgkhanjcfaaGreat
set_option linter.unusedSimpArgs false
set_option linter.unusedVariables false
open Go.RowKit
end Go.Proofs.YtfajjgkhanjcfaaGreat
