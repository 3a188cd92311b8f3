/- What all cases of SnoopYields use: short words for cells. -/
import Derived.Test.YtpganoppepmjjaaGreatMemo
import Derived.Test.YtpganoppepmjjaaGreatYdF
namespace Go.Proofs.YtpganoppepmjjaaGreat
open Go.RowKit
set_option linter.unusedVariables false
set_option maxRecDepth 1000000
namespace R
namespace Hs
def b (n : Nat) : Cel := .x (.int .u8 (Int.ofNat n))
def b0 : Cel := .x (.int .u8 (Int.ofNat 0))
def i (n : Int) : Cel := .x (.int .i64 n)
def bT : Cel := .x (.bool true)
def bF : Cel := .x (.bool false)
def sE : ByteArray := ⟨#[]⟩
def sB (l : List UInt8) : ByteArray := ⟨l.toArray⟩
def rm {α : Type} : List Nat → Tri α → Tri α
  | [], t => t
  | k :: l, t => rm l ((t.del 64 k).getD t)
end Hs
theorem hmix : Tryz.prog.follows .mixedOrders = true := by kernel_rfl
end R
end Go.Proofs.YtpganoppepmjjaaGreat
