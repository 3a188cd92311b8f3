/- addr.bytes: contracts, whatever the bytes are. -/
import Derived.Test.YtegjamjognpdkaaGreatAdrG
import Derived.Laws.BytesArg
namespace Go.Proofs.YtegjamjognpdkaaGreat
open Go.RowKit
set_option linter.unusedVariables false
set_option linter.unusedSimpArgs false
set_option maxRecDepth 100000 in
theorem bytes4 (a b c d : Int) (r : List Int) (w : World) : Calls Tryz.prog 73 #[.agg (adrC false (a :: b :: c :: d :: r)).toArray] w fun e w' => e = .returned (.string (strOfNums [a, b, c, d])) ∧ Mod (fun _ => False) w w' := by
  have c0 : (adrC false (a :: b :: c :: d :: r))[0]? = some (.bool false) := rfl
  have hcv := run_convert_bytes_arg (P := Tryz.prog) (w.alloc (.cells (adrC false (a :: b :: c :: d :: r)).toArray 25)) 136 5 Tryz.underlying136 Tryz.underlying5 w.heap.size 1 4 16 [a, b, c, d] rfl (fun i hi => by
    rw [cellOf (allocNew w _)]
    rcases (show i = 0 ∨ i = 1 ∨ i = 2 ∨ i = 3 by omega) with rfl | rfl | rfl | rfl <;> rfl) 9 Tryz.underlying9
  go_enter Tryz.func73, Tryz.ntmps73
  go_wp2
  go_returns
  exact ⟨rfl, (Mod.refl _ _).alloc _⟩
end Go.Proofs.YtegjamjognpdkaaGreat
