/-
  No cell of these rows narrows 'for every input' (looked for: loops, veiled, ifaces, maps, wideKeys, modest, calm, conditions, laid).
  DERIVED. THE GIVEN ROWS OF THIS SEAT. 4 by the template 'for every input the law returns true; each argument reads behind the call as it read before'; 0 by the template 'total and deterministic' (their statements: YtjjfihndgejibaaTotals.lean).
  GIVEN WITH THE SEED: the statements are not yours to turn. If you find one false, say at which input.
  Laid BY PROGRAM, IN A SANDBOX (cutbox-rows.mjs): the forced cells as the released guide's own fill.sh prints them over the translation 21b2959981ce1daa… (all of the seat's roots in one cut). By AI agents, Wed Nov 11 2026. No macro, syntax, notation, axiom, sorry.
-/
import Derived.Test.YtjjfihndgejibaaChecked
import GoSem.Claim
import GoSem.ClaimJoined
import GoSem.ClaimMapViews
import Derived.JoinedTies
import Derived.KernelRfl
namespace Go.Proofs.Ytjjfihndgejibaa
/- THE CELL 'sum', in the pinned program and in every row, IS THE sha256 OF THE DUMP (.gsa) THAT YtjjfihndgejibaaProg.lean LOADS. Nothing in Lean hashes anything: it is a label: what it is worth is what the hold of that sum in a sandbox is worth. -/
noncomputable def Try.pinned : Pinned := { name := "ytjjfihndgejibaa", sum := "21b2959981ce1daacdf5c9656cdc9d6b9b8ed5f5ad06e7ee178729bf451c9585", checked := Try.checked }
namespace Rows
def none {H : Type} : Left H := { results := [], args := [] }

/-- 'acequialaw13.SerialGaps': WHATEVER THE INPUT: true; the input reads as it did. -/
def serialGapsSpec : ChangeSpec := { name := "serialGaps", fn := fun _ => fun
  | [d1, d2, d3] => { results := [.lit (.bool true)], args := [d1, d2, d3] }
  | _ => none }
def serialGapsRow : OpenClaim := { program := "ytjjfihndgejibaa", sum := "21b2959981ce1daacdf5c9656cdc9d6b9b8ed5f5ad06e7ee178729bf451c9585", func := "acequia/acequialaw13.SerialGaps", spec := "serialGaps", apart := false }
def SerialGapsSaid : Prop := serialGapsRow.holds Try.pinned (OpenSpec.ofChange serialGapsSpec)

/-- ITS FALSE NEIGHBOUR: 'it returns false'. Refute it at one input. -/
def serialGapsWrong : ChangeSpec := { name := "serialGaps", fn := fun _ => fun
  | [d1, d2, d3] => { results := [.lit (.bool false)], args := [d1, d2, d3] }
  | _ => none }
def SerialGapsWrongFalsely : Prop := serialGapsRow.holds Try.pinned (OpenSpec.ofChange serialGapsWrong)

/-- 'acequialaw13.SerialOrders': WHATEVER THE INPUT: true; the input reads as it did. -/
def serialOrdersSpec : ChangeSpec := { name := "serialOrders", fn := fun _ => fun
  | [d1, d2, d3] => { results := [.lit (.bool true)], args := [d1, d2, d3] }
  | _ => none }
def serialOrdersRow : OpenClaim := { program := "ytjjfihndgejibaa", sum := "21b2959981ce1daacdf5c9656cdc9d6b9b8ed5f5ad06e7ee178729bf451c9585", func := "acequia/acequialaw13.SerialOrders", spec := "serialOrders", apart := false }
def SerialOrdersSaid : Prop := serialOrdersRow.holds Try.pinned (OpenSpec.ofChange serialOrdersSpec)

/-- ITS FALSE NEIGHBOUR: 'it returns false'. Refute it at one input. -/
def serialOrdersWrong : ChangeSpec := { name := "serialOrders", fn := fun _ => fun
  | [d1, d2, d3] => { results := [.lit (.bool false)], args := [d1, d2, d3] }
  | _ => none }
def SerialOrdersWrongFalsely : Prop := serialOrdersRow.holds Try.pinned (OpenSpec.ofChange serialOrdersWrong)

/-- 'acequialaw13.SerialWithin': WHATEVER THE INPUT: true; the input reads as it did. -/
def serialWithinSpec : ChangeSpec := { name := "serialWithin", fn := fun _ => fun
  | [d1, d2, d3] => { results := [.lit (.bool true)], args := [d1, d2, d3] }
  | _ => none }
def serialWithinRow : OpenClaim := { program := "ytjjfihndgejibaa", sum := "21b2959981ce1daacdf5c9656cdc9d6b9b8ed5f5ad06e7ee178729bf451c9585", func := "acequia/acequialaw13.SerialWithin", spec := "serialWithin", apart := false }
def SerialWithinSaid : Prop := serialWithinRow.holds Try.pinned (OpenSpec.ofChange serialWithinSpec)

/-- ITS FALSE NEIGHBOUR: 'it returns false'. Refute it at one input. -/
def serialWithinWrong : ChangeSpec := { name := "serialWithin", fn := fun _ => fun
  | [d1, d2, d3] => { results := [.lit (.bool false)], args := [d1, d2, d3] }
  | _ => none }
def SerialWithinWrongFalsely : Prop := serialWithinRow.holds Try.pinned (OpenSpec.ofChange serialWithinWrong)

/-- 'acequialaw13.SerialLatest': WHATEVER THE INPUT: true; the input reads as it did. -/
def serialLatestSpec : ChangeSpec := { name := "serialLatest", fn := fun _ => fun
  | [d1, d2, d3] => { results := [.lit (.bool true)], args := [d1, d2, d3] }
  | _ => none }
def serialLatestRow : OpenClaim := { program := "ytjjfihndgejibaa", sum := "21b2959981ce1daacdf5c9656cdc9d6b9b8ed5f5ad06e7ee178729bf451c9585", func := "acequia/acequialaw13.SerialLatest", spec := "serialLatest", apart := false }
def SerialLatestSaid : Prop := serialLatestRow.holds Try.pinned (OpenSpec.ofChange serialLatestSpec)

/-- ITS FALSE NEIGHBOUR: 'it returns false'. Refute it at one input. -/
def serialLatestWrong : ChangeSpec := { name := "serialLatest", fn := fun _ => fun
  | [d1, d2, d3] => { results := [.lit (.bool false)], args := [d1, d2, d3] }
  | _ => none }
def SerialLatestWrongFalsely : Prop := serialLatestRow.holds Try.pinned (OpenSpec.ofChange serialLatestWrong)

/- THE SECOND FORM. 'bulk': how many values and letters a reading holds, each counted each time it is reached (what is shared counts as often as it is met; a slice's spare places count too). A statement '..UptoSaid' is the law's where the arguments, and the package variables that the reading takes, are together of bulk at most 1048576: NARROWER than '..Said'. Prove '..Said' where nothing that the law and all that it calls make is longer than what came in: it says more and counts as full. Else prove '..UptoSaid'. A law counts once. -/
mutual
def uptoBulk {H : Type} : DataW H → Nat
  | .lit (.string bytes) => bytes.length + 1
  | .lit _ => 1
  | .nil => 1
  | .ptr d => uptoBulk d + 1
  | .slice elems spare => uptoBulkAll elems + uptoBulkAll spare + 1
  | .agg parts => uptoBulkAll parts + 1
  | .iface _ d => uptoBulk d + 1
  | .map entries => uptoBulkEntries entries + 1
  | .held _ => 1
def uptoBulkAll {H : Type} : List (DataW H) → Nat
  | [] => 0
  | d :: r => uptoBulk d + uptoBulkAll r
def uptoBulkEntries {H : Type} : List (Lit × DataW H) → Nat
  | [] => 0
  | x :: r => uptoBulkEntry x + uptoBulkEntries r
def uptoBulkEntry {H : Type} : Lit × DataW H → Nat
  | (.string bytes, d) => bytes.length + uptoBulk d + 1
  | (_, d) => uptoBulk d + 1
 end
def uptoSmall : (H : Type) → List (DataW H) → Bool := fun _ ds => decide (uptoBulkAll ds ≤ 1048576)
def OpenSpec.upto (s : _root_.Go.ChangeSpec) : _root_.Go.OpenSpec := { _root_.Go.OpenSpec.ofChange s with cond := some uptoSmall }

/-- 'acequialaw13.SerialGaps', WHERE WHAT IT READS IS OF BULK AT MOST 1048576: true; the input reads as it did. -/
def serialGapsUptoRow : OpenClaim := { program := "ytjjfihndgejibaa", sum := "21b2959981ce1daacdf5c9656cdc9d6b9b8ed5f5ad06e7ee178729bf451c9585", func := "acequia/acequialaw13.SerialGaps", spec := "serialGaps", apart := false, narrowed := true }
def SerialGapsUptoSaid : Prop := serialGapsUptoRow.holds Try.pinned (OpenSpec.upto serialGapsSpec)

/-- 'acequialaw13.SerialOrders', WHERE WHAT IT READS IS OF BULK AT MOST 1048576: true; the input reads as it did. -/
def serialOrdersUptoRow : OpenClaim := { program := "ytjjfihndgejibaa", sum := "21b2959981ce1daacdf5c9656cdc9d6b9b8ed5f5ad06e7ee178729bf451c9585", func := "acequia/acequialaw13.SerialOrders", spec := "serialOrders", apart := false, narrowed := true }
def SerialOrdersUptoSaid : Prop := serialOrdersUptoRow.holds Try.pinned (OpenSpec.upto serialOrdersSpec)

/-- 'acequialaw13.SerialWithin', WHERE WHAT IT READS IS OF BULK AT MOST 1048576: true; the input reads as it did. -/
def serialWithinUptoRow : OpenClaim := { program := "ytjjfihndgejibaa", sum := "21b2959981ce1daacdf5c9656cdc9d6b9b8ed5f5ad06e7ee178729bf451c9585", func := "acequia/acequialaw13.SerialWithin", spec := "serialWithin", apart := false, narrowed := true }
def SerialWithinUptoSaid : Prop := serialWithinUptoRow.holds Try.pinned (OpenSpec.upto serialWithinSpec)

/-- 'acequialaw13.SerialLatest', WHERE WHAT IT READS IS OF BULK AT MOST 1048576: true; the input reads as it did. -/
def serialLatestUptoRow : OpenClaim := { program := "ytjjfihndgejibaa", sum := "21b2959981ce1daacdf5c9656cdc9d6b9b8ed5f5ad06e7ee178729bf451c9585", func := "acequia/acequialaw13.SerialLatest", spec := "serialLatest", apart := false, narrowed := true }
def SerialLatestUptoSaid : Prop := serialLatestUptoRow.holds Try.pinned (OpenSpec.upto serialLatestSpec)

end Rows
end Go.Proofs.Ytjjfihndgejibaa
