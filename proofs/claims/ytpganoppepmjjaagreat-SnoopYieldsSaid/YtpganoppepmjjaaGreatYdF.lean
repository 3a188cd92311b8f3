/- A fact on a remainder, for the run. -/
import Derived.Test.YtpganoppepmjjaaGreatAdrS
namespace Go.Proofs.YtpganoppepmjjaaGreat
open Go.RowKit
set_option linter.unusedVariables false
theorem fact_rem (k : IntKind) (n m r : Int) (hm : m ≠ 0) (h : n.tmod m = r) : R.FactOk k n (.rem, false, m, .int k r) := ⟨rfl, fun P ty w => by subst h; simp [binOp, Op.intDiv, hm]⟩
@[reducible] def yv (n m r c : Int) (hn : n.tmod 2 = r) (hm : m.tmod 25 = c) : R.Val := ⟨fun _ => .u8, fun q => cond (Nat.beq q 0) n m, fun q => cond (Nat.beq q 0) [(.rem, false, 2, .int .u8 r)] [(.rem, false, 25, .int .u8 c)], fun q f hf => by
  cases hq : Nat.beq q 0 with
  | true => rw [hq] at hf; obtain rfl := List.mem_singleton.1 hf; exact fact_rem _ _ _ _ (by decide) hn
  | false => rw [hq] at hf; obtain rfl := List.mem_singleton.1 hf; exact fact_rem _ _ _ _ (by decide) hm⟩
end Go.Proofs.YtpganoppepmjjaaGreat
