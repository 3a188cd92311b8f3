/- The functions without a body that are called, and what each of them is. -/
import Derived.Test.YtidkapanpieflaaRunA
import Derived.Test.YtidkapanpieflaaRows
import Derived.KernelRfl
namespace Go.Proofs.Ytidkapanpieflaa
set_option maxRecDepth 100000
def extL : List (FuncId × R.XK) := []
theorem extAll : R.XAll Try.prog extL := trivial
theorem ext_ok : R.EOk Try.prog (R.EX extL) := R.EX_ok extAll
end Go.Proofs.Ytidkapanpieflaa
