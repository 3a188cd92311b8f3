/- A part of ForwardNil's walk, in a module of its own. -/
import Derived.Test.YtallaaiodggimaaGreatSum38
namespace Go.Proofs.YtallaaiodggimaaGreat
open Go.RowKit
set_option linter.unusedVariables false
set_option linter.unusedSimpArgs false
theorem fact_lss (k : IntKind) (n m : Int) (b : Bool) (h : decide (n < m) = b) : R.FactOk k n (.lss, false, m, .bool b) := ⟨rfl, fun P ty w => by subst h; simp [binOp, Op.intCmp]⟩
theorem fact_gtr (k : IntKind) (n m : Int) (b : Bool) (h : decide (m < n) = b) : R.FactOk k n (.gtr, false, m, .bool b) := ⟨rfl, fun P ty w => by subst h; simp [binOp, Op.intCmp]⟩
end Go.Proofs.YtallaaiodggimaaGreat
