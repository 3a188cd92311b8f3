/- The functions without a body that are called, and what each of them is. -/
import Derived.Test.YtpganoppepmjjaaGreatRunA
import Derived.Test.YtpganoppepmjjaaGreatRows
import Derived.KernelRfl
namespace Go.Proofs.YtpganoppepmjjaaGreat
set_option maxRecDepth 100000
def extL : List (FuncId × R.XK) := [(233, .fn Extern.BytealgCompare.compare)]
theorem ext233 : R.ExtIs Tryz.prog 233 (.fn Extern.BytealgCompare.compare) := ⟨Tryz.f233, Tryz.func233, by kernel_rfl, by kernel_rfl, by kernel_rfl, by kernel_rfl⟩
theorem extAll : R.XAll Tryz.prog extL := ⟨ext233, trivial⟩
set_option linter.unusedSectionVars false
variable [vl : R.Val]
theorem ext_ok : R.EOk Tryz.prog (R.EX extL) := R.EX_ok extAll
end Go.Proofs.YtpganoppepmjjaaGreat
