/- Calls that the caller hands in. -/
import Derived.Test.YtidkapanpieflaaLives
namespace Go.Proofs.Ytidkapanpieflaa
open Go.RowKit
set_option linter.unusedVariables false
structure ActV where
  kind : Int
  body : ByteArray
  n : Int
/-- calls that can be read -/
def ActRow (w : World) (v : Value) (n : Nat) (l : Nat → ActV) : Prop :=
  ∃ ad cap, v = .slice ad n cap ∧ n ≤ cap ∧ cap ≤ maxLen ∧ (0 < n → ∃ g o, ad = some ⟨g, o, none⟩ ∧ g < w.heap.size ∧ ∀ i, i < n → (-9223372036854775808 ≤ (l i).kind ∧ (l i).kind ≤ 9223372036854775807) ∧ (-9223372036854775808 ≤ (l i).n ∧ (l i).n ≤ 9223372036854775807) ∧ w.cell? ⟨g, o + i * 3, none⟩ = some (.int .i64 (l i).kind) ∧ w.cell? ⟨g, o + i * 3 + 1, none⟩ = some (.string (l i).body) ∧ w.cell? ⟨g, o + i * 3 + 2, none⟩ = some (.int .i64 (l i).n))
end Go.Proofs.Ytidkapanpieflaa
