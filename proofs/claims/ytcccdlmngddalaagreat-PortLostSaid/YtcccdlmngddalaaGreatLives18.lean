/- The living call of chapter 18, run whole. -/
import Derived.Test.YtcccdlmngddalaaGreatExt
import Derived.Test.YtcccdlmngddalaaGreatSym
set_option linter.unusedVariables false
set_option linter.unusedSimpArgs false
namespace Go.Proofs.YtcccdlmngddalaaGreat
open Go.RowKit
set_option maxRecDepth 1000000 in
theorem lives18_any (w : World) : Calls Tryz.prog 26 #[] w fun e w' => e = .returned (.bool true) ∧ Mod (fun _ => False) w w' :=
  R.runs_eq (E := R.EX extL) (hE := ext_ok) (P := Tryz.prog) (n := 1000) (k := 100) (us := #[]) (xs := []) (y := .v (.c (.x (.bool true)))) (by kernel_rfl) (by kernel_rfl) (show R.LR _ _ _ from trivial) R.hu_true w
end Go.Proofs.YtcccdlmngddalaaGreat
