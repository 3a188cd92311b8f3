/- The living call of chapter 35, run whole. -/
import Derived.Test.YtegjamjognpdkaaExt
import Derived.Test.YtegjamjognpdkaaSym
namespace Go.Proofs.Ytegjamjognpdkaa
open Go.RowKit
set_option maxRecDepth 1000000 in
theorem lives35_any (w : World) : Calls Try.prog 12 #[] w fun e w' => e = .returned (.bool true) ∧ Mod (fun _ => False) w w' :=
  R.runs_eq (E := R.EX extL) (hE := ext_ok) (P := Try.prog) (n := 1000) (k := 100) (us := #[]) (xs := []) (y := .v (.c (.x (.bool true)))) (by kernel_rfl) (by kernel_rfl) (show R.LR _ _ _ from trivial) R.hu_true w
end Go.Proofs.Ytegjamjognpdkaa
