/- The functions without a body that are called, and what each of them is. -/
import Derived.Test.YtegjamjognpdkaaGreatRunA
import Derived.Test.YtegjamjognpdkaaGreatRows
import Derived.KernelRfl
namespace Go.Proofs.YtegjamjognpdkaaGreat
set_option maxRecDepth 100000
def extL : List (FuncId × R.XK) := [(46, .store), (63, .load .u64), (94, .load .u32), (98, .fn Extern.BytealgCompare.compare), (102, .store), (104, .fn (fun _ => do mark .disable; pure Extern.Race.none_)), (105, .cas .i32), (106, .fn (fun _ => do mark .enable; pure Extern.Race.none_)), (107, .mk .acquire), (109, .mk .releaseMerge), (110, .add .i32)]
theorem ext46 : R.ExtIs Tryz.prog 46 (.store) := ⟨Tryz.f46, Tryz.func46, by kernel_rfl, by kernel_rfl, by kernel_rfl, by kernel_rfl⟩
theorem ext63 : R.ExtIs Tryz.prog 63 (.load .u64) := ⟨Tryz.f63, Tryz.func63, by kernel_rfl, by kernel_rfl, by kernel_rfl, by kernel_rfl⟩
theorem ext94 : R.ExtIs Tryz.prog 94 (.load .u32) := ⟨Tryz.f94, Tryz.func94, by kernel_rfl, by kernel_rfl, by kernel_rfl, by kernel_rfl⟩
theorem ext98 : R.ExtIs Tryz.prog 98 (.fn Extern.BytealgCompare.compare) := ⟨Tryz.f98, Tryz.func98, by kernel_rfl, by kernel_rfl, by kernel_rfl, by kernel_rfl⟩
theorem ext102 : R.ExtIs Tryz.prog 102 (.store) := ⟨Tryz.f102, Tryz.func102, by kernel_rfl, by kernel_rfl, by kernel_rfl, by kernel_rfl⟩
theorem ext104 : R.ExtIs Tryz.prog 104 (.fn (fun _ => do mark .disable; pure Extern.Race.none_)) := ⟨Tryz.f104, Tryz.func104, by kernel_rfl, by kernel_rfl, by kernel_rfl, by kernel_rfl⟩
theorem ext105 : R.ExtIs Tryz.prog 105 (.cas .i32) := ⟨Tryz.f105, Tryz.func105, by kernel_rfl, by kernel_rfl, by kernel_rfl, by kernel_rfl⟩
theorem ext106 : R.ExtIs Tryz.prog 106 (.fn (fun _ => do mark .enable; pure Extern.Race.none_)) := ⟨Tryz.f106, Tryz.func106, by kernel_rfl, by kernel_rfl, by kernel_rfl, by kernel_rfl⟩
theorem ext107 : R.ExtIs Tryz.prog 107 (.mk .acquire) := ⟨Tryz.f107, Tryz.func107, by kernel_rfl, by kernel_rfl, by kernel_rfl, by kernel_rfl⟩
theorem ext109 : R.ExtIs Tryz.prog 109 (.mk .releaseMerge) := ⟨Tryz.f109, Tryz.func109, by kernel_rfl, by kernel_rfl, by kernel_rfl, by kernel_rfl⟩
theorem ext110 : R.ExtIs Tryz.prog 110 (.add .i32) := ⟨Tryz.f110, Tryz.func110, by kernel_rfl, by kernel_rfl, by kernel_rfl, by kernel_rfl⟩
theorem extAll : R.XAll Tryz.prog extL := ⟨ext46, ext63, ext94, ext98, ext102, ext104, ext105, ext106, ext107, ext109, ext110, trivial⟩
set_option linter.unusedSectionVars false
variable [vl : R.Val]
theorem ext_ok : R.EOk Tryz.prog (R.EX extL) := R.EX_ok extAll
end Go.Proofs.YtegjamjognpdkaaGreat
