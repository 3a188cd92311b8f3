/- The functions without a body that are called, and what each of them is. -/
import Derived.Test.YtegjamjognpdkaaRunA
import Derived.Test.YtegjamjognpdkaaRows
import Derived.KernelRfl
namespace Go.Proofs.Ytegjamjognpdkaa
set_option maxRecDepth 100000
def extL : List (FuncId × R.XK) := [(64, .store), (73, .load .u64), (74, .load .u32), (81, .store), (83, .fn Extern.BytealgCompare.compare), (84, .fn (fun _ => do mark .disable; pure Extern.Race.none_)), (85, .cas .i32), (86, .fn (fun _ => do mark .enable; pure Extern.Race.none_)), (87, .mk .acquire), (89, .mk .releaseMerge), (90, .add .i32)]
theorem ext64 : R.ExtIs Try.prog 64 (.store) := ⟨Try.f64, Try.func64, by kernel_rfl, by kernel_rfl, by kernel_rfl, by kernel_rfl⟩
theorem ext73 : R.ExtIs Try.prog 73 (.load .u64) := ⟨Try.f73, Try.func73, by kernel_rfl, by kernel_rfl, by kernel_rfl, by kernel_rfl⟩
theorem ext74 : R.ExtIs Try.prog 74 (.load .u32) := ⟨Try.f74, Try.func74, by kernel_rfl, by kernel_rfl, by kernel_rfl, by kernel_rfl⟩
theorem ext81 : R.ExtIs Try.prog 81 (.store) := ⟨Try.f81, Try.func81, by kernel_rfl, by kernel_rfl, by kernel_rfl, by kernel_rfl⟩
theorem ext83 : R.ExtIs Try.prog 83 (.fn Extern.BytealgCompare.compare) := ⟨Try.f83, Try.func83, by kernel_rfl, by kernel_rfl, by kernel_rfl, by kernel_rfl⟩
theorem ext84 : R.ExtIs Try.prog 84 (.fn (fun _ => do mark .disable; pure Extern.Race.none_)) := ⟨Try.f84, Try.func84, by kernel_rfl, by kernel_rfl, by kernel_rfl, by kernel_rfl⟩
theorem ext85 : R.ExtIs Try.prog 85 (.cas .i32) := ⟨Try.f85, Try.func85, by kernel_rfl, by kernel_rfl, by kernel_rfl, by kernel_rfl⟩
theorem ext86 : R.ExtIs Try.prog 86 (.fn (fun _ => do mark .enable; pure Extern.Race.none_)) := ⟨Try.f86, Try.func86, by kernel_rfl, by kernel_rfl, by kernel_rfl, by kernel_rfl⟩
theorem ext87 : R.ExtIs Try.prog 87 (.mk .acquire) := ⟨Try.f87, Try.func87, by kernel_rfl, by kernel_rfl, by kernel_rfl, by kernel_rfl⟩
theorem ext89 : R.ExtIs Try.prog 89 (.mk .releaseMerge) := ⟨Try.f89, Try.func89, by kernel_rfl, by kernel_rfl, by kernel_rfl, by kernel_rfl⟩
theorem ext90 : R.ExtIs Try.prog 90 (.add .i32) := ⟨Try.f90, Try.func90, by kernel_rfl, by kernel_rfl, by kernel_rfl, by kernel_rfl⟩
theorem extAll : R.XAll Try.prog extL := ⟨ext64, ext73, ext74, ext81, ext83, ext84, ext85, ext86, ext87, ext89, ext90, trivial⟩
set_option linter.unusedSectionVars false
variable [vl : R.Val]
theorem ext_ok : R.EOk Try.prog (R.EX extL) := R.EX_ok extAll
end Go.Proofs.Ytegjamjognpdkaa
