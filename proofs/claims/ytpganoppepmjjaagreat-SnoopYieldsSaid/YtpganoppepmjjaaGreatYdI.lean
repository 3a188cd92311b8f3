/- Shorter words for cells. -/
import Derived.Test.YtpganoppepmjjaaGreatYdH
namespace Go.Proofs.YtpganoppepmjjaaGreat
open Go.RowKit
set_option linter.unusedVariables false
set_option maxRecDepth 1000000
namespace R
namespace Hs
def cat : List (List Cel) → List Cel
  | [] => []
  | a :: l => a ++ cat l
def tq (l : List (List Cel)) : Tri Cel := tc (cat l)
def Z : List Cel := [b0, b0, b0, b0, b0, b0, b0, b0, b0, b0, b0, b0]
def O : List Cel := [bF, b 10, b0, b0, b 1, b0, b0, b0, b0, b0, b0, b0, b0, b0, b0, b0, b0]
def ky (a b c d : Nat) : Value := .agg #[.bool false, .int .u8 (Int.ofNat a), .int .u8 (Int.ofNat b), .int .u8 (Int.ofNat c), .int .u8 (Int.ofNat d), .int .u8 0, .int .u8 0, .int .u8 0, .int .u8 0, .int .u8 0, .int .u8 0, .int .u8 0, .int .u8 0, .int .u8 0, .int .u8 0, .int .u8 0, .int .u8 0]
end Hs
end R
end Go.Proofs.YtpganoppepmjjaaGreat
