/- The functions without a body that are called, and what each of them is. -/
import Derived.Test.YtallaaiodggimaaGreatRunA
import Derived.Test.YtallaaiodggimaaGreatRows
import Derived.KernelRfl
namespace Go.Proofs.YtallaaiodggimaaGreat
set_option maxRecDepth 100000
def extL : List (FuncId × R.XK) := [(41, .add .i64), (60, .load .i64), (101, .store), (258, .load .u64), (265, .load .u32), (362, .store), (434, .fn (fun _ => do mark .disable; pure Extern.Race.none_)), (435, .cas .i32), (436, .fn (fun _ => do mark .enable; pure Extern.Race.none_)), (437, .mk .acquire), (439, .mk .releaseMerge), (440, .add .i32), (442, .fn Extern.BytealgCompare.compare)]
theorem ext41 : R.ExtIs Tryz.prog 41 (.add .i64) := ⟨Tryz.f41, Tryz.func41, by kernel_rfl, by kernel_rfl, by kernel_rfl, by kernel_rfl⟩
theorem ext60 : R.ExtIs Tryz.prog 60 (.load .i64) := ⟨Tryz.f60, Tryz.func60, by kernel_rfl, by kernel_rfl, by kernel_rfl, by kernel_rfl⟩
theorem ext101 : R.ExtIs Tryz.prog 101 (.store) := ⟨Tryz.f101, Tryz.func101, by kernel_rfl, by kernel_rfl, by kernel_rfl, by kernel_rfl⟩
theorem ext258 : R.ExtIs Tryz.prog 258 (.load .u64) := ⟨Tryz.f258, Tryz.func258, by kernel_rfl, by kernel_rfl, by kernel_rfl, by kernel_rfl⟩
theorem ext265 : R.ExtIs Tryz.prog 265 (.load .u32) := ⟨Tryz.f265, Tryz.func265, by kernel_rfl, by kernel_rfl, by kernel_rfl, by kernel_rfl⟩
theorem ext362 : R.ExtIs Tryz.prog 362 (.store) := ⟨Tryz.f362, Tryz.func362, by kernel_rfl, by kernel_rfl, by kernel_rfl, by kernel_rfl⟩
theorem ext434 : R.ExtIs Tryz.prog 434 (.fn (fun _ => do mark .disable; pure Extern.Race.none_)) := ⟨Tryz.f434, Tryz.func434, by kernel_rfl, by kernel_rfl, by kernel_rfl, by kernel_rfl⟩
theorem ext435 : R.ExtIs Tryz.prog 435 (.cas .i32) := ⟨Tryz.f435, Tryz.func435, by kernel_rfl, by kernel_rfl, by kernel_rfl, by kernel_rfl⟩
theorem ext436 : R.ExtIs Tryz.prog 436 (.fn (fun _ => do mark .enable; pure Extern.Race.none_)) := ⟨Tryz.f436, Tryz.func436, by kernel_rfl, by kernel_rfl, by kernel_rfl, by kernel_rfl⟩
theorem ext437 : R.ExtIs Tryz.prog 437 (.mk .acquire) := ⟨Tryz.f437, Tryz.func437, by kernel_rfl, by kernel_rfl, by kernel_rfl, by kernel_rfl⟩
theorem ext439 : R.ExtIs Tryz.prog 439 (.mk .releaseMerge) := ⟨Tryz.f439, Tryz.func439, by kernel_rfl, by kernel_rfl, by kernel_rfl, by kernel_rfl⟩
theorem ext440 : R.ExtIs Tryz.prog 440 (.add .i32) := ⟨Tryz.f440, Tryz.func440, by kernel_rfl, by kernel_rfl, by kernel_rfl, by kernel_rfl⟩
theorem ext442 : R.ExtIs Tryz.prog 442 (.fn Extern.BytealgCompare.compare) := ⟨Tryz.f442, Tryz.func442, by kernel_rfl, by kernel_rfl, by kernel_rfl, by kernel_rfl⟩
theorem extAll : R.XAll Tryz.prog extL := ⟨ext41, ext60, ext101, ext258, ext265, ext362, ext434, ext435, ext436, ext437, ext439, ext440, ext442, trivial⟩
theorem ext_ok : R.EOk Tryz.prog (R.EX extL) := R.EX_ok extAll
end Go.Proofs.YtallaaiodggimaaGreat
