/- Arguments as they come: each cell is one cell. -/
import Derived.Test.YtcccdlmngddalaaGreatRunA
import Derived.ProofKit
set_option linter.unusedVariables false
set_option linter.unusedSimpArgs false
set_option linter.unusedSectionVars false
namespace Go.Proofs.YtcccdlmngddalaaGreat
open Go.RowKit
namespace R
variable [vl : Val]
section
variable {P : Program} {w : World} {r : Reach} {b : Nat} {t : TypeId} {v : Value}
end
end R
end Go.Proofs.YtcccdlmngddalaaGreat
