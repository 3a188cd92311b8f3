/- The functions without a body that are called, and what each of them is. -/
import Derived.Test.YtcccdlmngddalaaGreatRunA
import Derived.Test.YtcccdlmngddalaaGreatRows
import Derived.KernelRfl
set_option linter.unusedVariables false
set_option linter.unusedSimpArgs false
set_option linter.unusedSectionVars false
namespace Go.Proofs.YtcccdlmngddalaaGreat
set_option maxRecDepth 100000
def extL : List (FuncId × R.XK) := [(167, .fn Extern.BytealgCompare.compare)]
theorem ext167 : R.ExtIs Tryz.prog 167 (.fn Extern.BytealgCompare.compare) := ⟨Tryz.f167, Tryz.func167, by kernel_rfl, by kernel_rfl, by kernel_rfl, by kernel_rfl⟩
theorem extAll : R.XAll Tryz.prog extL := ⟨ext167, trivial⟩
variable [vl : R.Val]
theorem ext_ok : R.EOk Tryz.prog (R.EX extL) := R.EX_ok extAll
end Go.Proofs.YtcccdlmngddalaaGreat
