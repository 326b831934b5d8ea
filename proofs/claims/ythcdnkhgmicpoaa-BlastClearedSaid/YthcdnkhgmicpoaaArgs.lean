/- A contract at a call whose arguments are compared apart, by reducible unfolding alone: an arm that does not fit fails at once. -/
import Derived.Test.YthcdnkhgmicpoaaBase
namespace Go.Proofs.Ythcdnkhgmicpoaa
set_option linter.unusedSimpArgs false
set_option linter.unusedVariables false
theorem calls_args {P : Program} {f : FuncId} {a a' : Array Value} {w : World} {Q : Ending → World → Prop} (h : Calls P f a w Q) (e : a = a') : Calls P f a' w Q := e ▸ h
end Go.Proofs.Ythcdnkhgmicpoaa
