/- A part of ForwardNil's walk, in a module of its own. -/
import Derived.Test.YtallaaiodggimaaGreatFwF
namespace Go.Proofs.YtallaaiodggimaaGreat
open Go.RowKit
set_option linter.unusedVariables false
set_option linter.unusedSimpArgs false
set_option maxRecDepth 1000000 in
theorem walkB (n : Int) (h0 : decide (n < 0) = false) (h1 : decide (65535 < n) = false) (s : ByteArray) (W : World) : Calls Tryz.prog 3 #[.int .i64 n, .string s] W fun e w' => e = .returned (.bool true) ∧ Mod (fun _ => False) W w' :=
  R.runs_eq (E := EXS) (hE := exs_ok) (P := Tryz.prog) (n := 1000) (k := 100) (us := #[.int .i64 n, .string s]) (xs := [.y .i64 n [(.lss, false, 0, .bool false), (.gtr, false, 65535, .bool false)], .v (.c (.x (.string s)))]) (y := .v (.c (.x (.bool true)))) (by kernel_rfl) (by kernel_rfl)
    (show R.LR _ _ _ from ⟨⟨rfl, by intro f hf; simp at hf; rcases hf with rfl | rfl; exact fact_lss _ _ _ _ h0; exact fact_gtr _ _ _ _ h1⟩, ⟨rfl, rfl⟩, trivial⟩) R.hu_true W
end Go.Proofs.YtallaaiodggimaaGreat
