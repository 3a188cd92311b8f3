/- addr.bytes: contracts, whatever the bytes are. -/
import Derived.Test.YtcccdlmngddalaaGreatAdrG
import Derived.Laws.BytesArg
set_option linter.unusedVariables false
set_option linter.unusedSimpArgs false
namespace Go.Proofs.YtcccdlmngddalaaGreat
open Go.RowKit
set_option maxRecDepth 100000 in
theorem bytes4 (a b c d : Int) (r : List Int) (w : World) : Calls Tryz.prog 123 #[.agg (adrC false (a :: b :: c :: d :: r)).toArray] w fun e w' => e = .returned (.string (strOfNums [a, b, c, d])) ∧ Mod (fun _ => False) w w' := by
  have c0 : (adrC false (a :: b :: c :: d :: r))[0]? = some (.bool false) := rfl
  have hcv := run_convert_bytes_arg (P := Tryz.prog) (w.alloc (.cells (adrC false (a :: b :: c :: d :: r)).toArray 36)) 159 5 Tryz.underlying159 Tryz.underlying5 w.heap.size 1 4 16 [a, b, c, d] rfl (fun i hi => by
    rw [cellOf (allocNew w _)]
    rcases (show i = 0 ∨ i = 1 ∨ i = 2 ∨ i = 3 by omega) with rfl | rfl | rfl | rfl <;> rfl) 9 Tryz.underlying9
  go_enter Tryz.func123, Tryz.ntmps123
  go_wp2
  go_returns
  exact ⟨rfl, (Mod.refl _ _).alloc _⟩
end Go.Proofs.YtcccdlmngddalaaGreat
