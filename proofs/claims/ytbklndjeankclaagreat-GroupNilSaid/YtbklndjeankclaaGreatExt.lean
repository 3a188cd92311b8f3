/- The functions without a body that are called, and what each of them is. -/
import Derived.Test.YtbklndjeankclaaGreatRunA
import Derived.Test.YtbklndjeankclaaGreatRows
import Derived.KernelRfl
namespace Go.Proofs.YtbklndjeankclaaGreat
set_option maxRecDepth 100000
def extL : List (FuncId × R.XK) := [(143, .fn Extern.BytealgCompare.compare)]
theorem ext143 : R.ExtIs Tryz.prog 143 (.fn Extern.BytealgCompare.compare) := ⟨Tryz.f143, Tryz.func143, by kernel_rfl, by kernel_rfl, by kernel_rfl, by kernel_rfl⟩
theorem extAll : R.XAll Tryz.prog extL := ⟨ext143, trivial⟩
theorem ext_ok (w : World) : R.EOk Tryz.prog w (R.EX extL) := R.EX_ok extAll w
end Go.Proofs.YtbklndjeankclaaGreat
