/- The program's check of weekly hours. -/
import Derived.Test.YtoafgpeghokhgaaClock
import Derived.Test.YtoafgpeghokhgaaLet
namespace Go.Proofs.Ytoafgpeghokhgaa
set_option linter.unusedSimpArgs false
set_option linter.unusedVariables false
open Go.RowKit
end Go.Proofs.Ytoafgpeghokhgaa
