/- The functions without a body that are called, and what each of them is. -/
import Derived.Test.YtalgllcbngibeaaGreatRunA
import Derived.Test.YtalgllcbngibeaaGreatRows
import Derived.KernelRfl
namespace Go.Proofs.YtalgllcbngibeaaGreat
set_option maxRecDepth 100000
def extL : List (FuncId × R.XK) := [(218, .fn Extern.BytealgCompare.compare)]
theorem ext218 : R.ExtIs Tryz.prog 218 (.fn Extern.BytealgCompare.compare) := ⟨Tryz.f218, Tryz.func218, by kernel_rfl, by kernel_rfl, by kernel_rfl, by kernel_rfl⟩
theorem extAll : R.XAll Tryz.prog extL := ⟨ext218, trivial⟩
theorem ext_ok : R.EOk Tryz.prog (R.EX extL) := R.EX_ok extAll
end Go.Proofs.YtalgllcbngibeaaGreat
