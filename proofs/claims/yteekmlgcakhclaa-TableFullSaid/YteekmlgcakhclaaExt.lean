/- The functions without a body that are called, and what each of them is. -/
import Derived.Test.YteekmlgcakhclaaRunA
import Derived.Test.YteekmlgcakhclaaRows
import Derived.KernelRfl
namespace Go.Proofs.Yteekmlgcakhclaa
set_option maxRecDepth 100000
def extL : List (FuncId × R.XK) := [(48, .store), (62, .load .u64), (71, .load .u32), (89, .store), (97, .fn Extern.BytealgCompare.compare), (98, .fn (fun _ => do mark .disable; pure Extern.Race.none_)), (99, .cas .i32), (100, .fn (fun _ => do mark .enable; pure Extern.Race.none_)), (101, .mk .acquire), (103, .mk .releaseMerge), (104, .add .i32)]
theorem ext48 : R.ExtIs Try.prog 48 (.store) := ⟨Try.f48, Try.func48, by kernel_rfl, by kernel_rfl, by kernel_rfl, by kernel_rfl⟩
theorem ext62 : R.ExtIs Try.prog 62 (.load .u64) := ⟨Try.f62, Try.func62, by kernel_rfl, by kernel_rfl, by kernel_rfl, by kernel_rfl⟩
theorem ext71 : R.ExtIs Try.prog 71 (.load .u32) := ⟨Try.f71, Try.func71, by kernel_rfl, by kernel_rfl, by kernel_rfl, by kernel_rfl⟩
theorem ext89 : R.ExtIs Try.prog 89 (.store) := ⟨Try.f89, Try.func89, by kernel_rfl, by kernel_rfl, by kernel_rfl, by kernel_rfl⟩
theorem ext97 : R.ExtIs Try.prog 97 (.fn Extern.BytealgCompare.compare) := ⟨Try.f97, Try.func97, by kernel_rfl, by kernel_rfl, by kernel_rfl, by kernel_rfl⟩
theorem ext98 : R.ExtIs Try.prog 98 (.fn (fun _ => do mark .disable; pure Extern.Race.none_)) := ⟨Try.f98, Try.func98, by kernel_rfl, by kernel_rfl, by kernel_rfl, by kernel_rfl⟩
theorem ext99 : R.ExtIs Try.prog 99 (.cas .i32) := ⟨Try.f99, Try.func99, by kernel_rfl, by kernel_rfl, by kernel_rfl, by kernel_rfl⟩
theorem ext100 : R.ExtIs Try.prog 100 (.fn (fun _ => do mark .enable; pure Extern.Race.none_)) := ⟨Try.f100, Try.func100, by kernel_rfl, by kernel_rfl, by kernel_rfl, by kernel_rfl⟩
theorem ext101 : R.ExtIs Try.prog 101 (.mk .acquire) := ⟨Try.f101, Try.func101, by kernel_rfl, by kernel_rfl, by kernel_rfl, by kernel_rfl⟩
theorem ext103 : R.ExtIs Try.prog 103 (.mk .releaseMerge) := ⟨Try.f103, Try.func103, by kernel_rfl, by kernel_rfl, by kernel_rfl, by kernel_rfl⟩
theorem ext104 : R.ExtIs Try.prog 104 (.add .i32) := ⟨Try.f104, Try.func104, by kernel_rfl, by kernel_rfl, by kernel_rfl, by kernel_rfl⟩
theorem extAll : R.XAll Try.prog extL := ⟨ext48, ext62, ext71, ext89, ext97, ext98, ext99, ext100, ext101, ext103, ext104, trivial⟩
theorem ext_ok : R.EOk Try.prog (R.EX extL) := R.EX_ok extAll
end Go.Proofs.Yteekmlgcakhclaa
