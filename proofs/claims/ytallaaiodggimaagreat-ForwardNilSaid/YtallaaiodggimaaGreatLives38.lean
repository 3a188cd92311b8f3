/- The living call of chapter 38, run whole. -/
import Derived.Test.YtallaaiodggimaaGreatExt
import Derived.Test.YtallaaiodggimaaGreatSym
import Derived.Test.YtallaaiodggimaaGreatBitS
namespace Go.Proofs.YtallaaiodggimaaGreat
open Go.RowKit
set_option linter.unusedVariables false
set_option linter.unusedSimpArgs false
set_option maxRecDepth 1000000 in
theorem lives38_any (w : World) : Calls Tryz.prog 16 #[] w fun e w' => e = .returned (.bool true) ∧ Mod (fun _ => False) w w' :=
  R.runs_eq (E := EXB) (hE := exb_ok) (P := Tryz.prog) (n := 1000) (k := 100) (us := #[]) (xs := []) (y := .v (.c (.x (.bool true)))) (by kernel_rfl) (by kernel_rfl) (show R.LR _ _ _ from trivial) R.hu_true w
end Go.Proofs.YtallaaiodggimaaGreat
