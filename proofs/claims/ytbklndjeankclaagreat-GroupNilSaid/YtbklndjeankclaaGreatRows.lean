/-
  No cell of these rows narrows 'for every input' (looked for: loops, veiled, ifaces, maps, wideKeys, modest, calm, conditions, laid).
  DERIVED. THE GIVEN ROWS OF THIS SEAT. 4 by the template 'for every input the law returns true; each argument reads behind the call as it read before'; 0 by the template 'total and deterministic' (their statements: YtbklndjeankclaaGreatTotals.lean).
  GIVEN WITH THE SEED: the statements are not yours to turn. If you find one false, say at which input.
  Laid BY PROGRAM, IN A SANDBOX (cutbox-rows.mjs): the forced cells as the released guide's own fill.sh prints them over the translation 7a390cc1a353b40e… (all of the seat's roots in one cut). By AI agents, Wed Nov 11 2026. No macro, syntax, notation, axiom, sorry.
-/
import Derived.Test.YtbklndjeankclaaGreatChecked
import GoSem.Claim
import GoSem.ClaimJoined
import GoSem.ClaimMapViews
import Derived.JoinedTies
import Derived.KernelRfl
namespace Go.Proofs.YtbklndjeankclaaGreat
/- THE CELL 'sum', in the pinned program and in every row, IS THE sha256 OF THE DUMP (.gsa) THAT YtbklndjeankclaaGreatProg.lean LOADS. Nothing in Lean hashes anything: it is a label: what it is worth is what the hold of that sum in a sandbox is worth. -/
noncomputable def Tryz.pinned : Pinned := { name := "ytbklndjeankclaagreat", sum := "7a390cc1a353b40edc5682d9ff17a09fd0d91e237e449f535721601e2c1184c3", checked := Tryz.checked }
namespace Rows
def none {H : Type} : Left H := { results := [], args := [] }

/-- 'acequialaw17.GroupFull': WHATEVER THE INPUT: true; the input reads as it did. -/
def groupFullSpec : ChangeSpec := { name := "groupFull", fn := fun _ => fun
  | [d1, d2, d3] => { results := [.lit (.bool true)], args := [d1, d2, d3] }
  | _ => none }
def groupFullRow : OpenClaim := { program := "ytbklndjeankclaagreat", sum := "7a390cc1a353b40edc5682d9ff17a09fd0d91e237e449f535721601e2c1184c3", func := "acequia/acequialaw17.GroupFull", spec := "groupFull", inPlace := ["internal/bytealg.abigen_runtime_cmpstring"], unfollowed := true, recurses := true, plainKeys := false, apart := false }
def GroupFullSaid : Prop := groupFullRow.holds Tryz.pinned (OpenSpec.ofChange groupFullSpec)

/-- ITS FALSE NEIGHBOUR: 'it returns false'. Refute it at one input. -/
def groupFullWrong : ChangeSpec := { name := "groupFull", fn := fun _ => fun
  | [d1, d2, d3] => { results := [.lit (.bool false)], args := [d1, d2, d3] }
  | _ => none }
def GroupFullWrongFalsely : Prop := groupFullRow.holds Tryz.pinned (OpenSpec.ofChange groupFullWrong)

/-- 'acequialaw17.GroupNil': WHATEVER THE INPUT: true; the input reads as it did. -/
def groupNilSpec : ChangeSpec := { name := "groupNil", fn := fun _ => fun
  | [d1, d2] => { results := [.lit (.bool true)], args := [d1, d2] }
  | _ => none }
def groupNilRow : OpenClaim := { program := "ytbklndjeankclaagreat", sum := "7a390cc1a353b40edc5682d9ff17a09fd0d91e237e449f535721601e2c1184c3", func := "acequia/acequialaw17.GroupNil", spec := "groupNil", inPlace := ["internal/bytealg.abigen_runtime_cmpstring"], unfollowed := true, recurses := true, plainKeys := false, apart := false }
def GroupNilSaid : Prop := groupNilRow.holds Tryz.pinned (OpenSpec.ofChange groupNilSpec)

/-- ITS FALSE NEIGHBOUR: 'it returns false'. Refute it at one input. -/
def groupNilWrong : ChangeSpec := { name := "groupNil", fn := fun _ => fun
  | [d1, d2] => { results := [.lit (.bool false)], args := [d1, d2] }
  | _ => none }
def GroupNilWrongFalsely : Prop := groupNilRow.holds Tryz.pinned (OpenSpec.ofChange groupNilWrong)

/-- 'acequialaw18.PortLost': WHATEVER THE INPUT: true; the input reads as it did. -/
def portLostSpec : ChangeSpec := { name := "portLost", fn := fun _ => fun
  | [d1, d2] => { results := [.lit (.bool true)], args := [d1, d2] }
  | _ => none }
def portLostRow : OpenClaim := { program := "ytbklndjeankclaagreat", sum := "7a390cc1a353b40edc5682d9ff17a09fd0d91e237e449f535721601e2c1184c3", func := "acequia/acequialaw18.PortLost", spec := "portLost", inPlace := ["internal/bytealg.abigen_runtime_cmpstring"], unfollowed := true, recurses := true, plainKeys := false, apart := false }
def PortLostSaid : Prop := portLostRow.holds Tryz.pinned (OpenSpec.ofChange portLostSpec)

/-- ITS FALSE NEIGHBOUR: 'it returns false'. Refute it at one input. -/
def portLostWrong : ChangeSpec := { name := "portLost", fn := fun _ => fun
  | [d1, d2] => { results := [.lit (.bool false)], args := [d1, d2] }
  | _ => none }
def PortLostWrongFalsely : Prop := portLostRow.holds Tryz.pinned (OpenSpec.ofChange portLostWrong)

/-- 'acequialaw18.PortNil': WHATEVER THE INPUT: true; the input reads as it did. -/
def portNilSpec : ChangeSpec := { name := "portNil", fn := fun _ => fun
  | [d1, d2] => { results := [.lit (.bool true)], args := [d1, d2] }
  | _ => none }
def portNilRow : OpenClaim := { program := "ytbklndjeankclaagreat", sum := "7a390cc1a353b40edc5682d9ff17a09fd0d91e237e449f535721601e2c1184c3", func := "acequia/acequialaw18.PortNil", spec := "portNil", inPlace := ["internal/bytealg.abigen_runtime_cmpstring"], unfollowed := true, recurses := true, plainKeys := false, apart := false }
def PortNilSaid : Prop := portNilRow.holds Tryz.pinned (OpenSpec.ofChange portNilSpec)

/-- ITS FALSE NEIGHBOUR: 'it returns false'. Refute it at one input. -/
def portNilWrong : ChangeSpec := { name := "portNil", fn := fun _ => fun
  | [d1, d2] => { results := [.lit (.bool false)], args := [d1, d2] }
  | _ => none }
def PortNilWrongFalsely : Prop := portNilRow.holds Tryz.pinned (OpenSpec.ofChange portNilWrong)

/- THE SECOND FORM. 'bulk': how many values and letters a reading holds, each counted each time it is reached (what is shared counts as often as it is met; a slice's spare places count too). A statement '..UptoSaid' is the law's where the arguments, and the package variables that the reading takes, are together of bulk at most 1048576: NARROWER than '..Said'. Prove '..Said' where nothing that the law and all that it calls make is longer than what came in: it says more and counts as full. Else prove '..UptoSaid'. A law counts once. -/
mutual
def uptoBulk {H : Type} : DataW H → Nat
  | .lit (.string bytes) => bytes.length + 1
  | .lit _ => 1
  | .nil => 1
  | .ptr d => uptoBulk d + 1
  | .slice elems spare => uptoBulkAll elems + uptoBulkAll spare + 1
  | .agg parts => uptoBulkAll parts + 1
  | .iface _ d => uptoBulk d + 1
  | .map entries => uptoBulkEntries entries + 1
  | .held _ => 1
def uptoBulkAll {H : Type} : List (DataW H) → Nat
  | [] => 0
  | d :: r => uptoBulk d + uptoBulkAll r
def uptoBulkEntries {H : Type} : List (Lit × DataW H) → Nat
  | [] => 0
  | x :: r => uptoBulkEntry x + uptoBulkEntries r
def uptoBulkEntry {H : Type} : Lit × DataW H → Nat
  | (.string bytes, d) => bytes.length + uptoBulk d + 1
  | (_, d) => uptoBulk d + 1
 end
def uptoSmall : (H : Type) → List (DataW H) → Bool := fun _ ds => decide (uptoBulkAll ds ≤ 1048576)
def OpenSpec.upto (s : _root_.Go.ChangeSpec) : _root_.Go.OpenSpec := { _root_.Go.OpenSpec.ofChange s with cond := some uptoSmall }

/-- 'acequialaw17.GroupFull', WHERE WHAT IT READS IS OF BULK AT MOST 1048576: true; the input reads as it did. -/
def groupFullUptoRow : OpenClaim := { program := "ytbklndjeankclaagreat", sum := "7a390cc1a353b40edc5682d9ff17a09fd0d91e237e449f535721601e2c1184c3", func := "acequia/acequialaw17.GroupFull", spec := "groupFull", inPlace := ["internal/bytealg.abigen_runtime_cmpstring"], unfollowed := true, recurses := true, plainKeys := false, apart := false, narrowed := true }
def GroupFullUptoSaid : Prop := groupFullUptoRow.holds Tryz.pinned (OpenSpec.upto groupFullSpec)

/-- 'acequialaw17.GroupNil', WHERE WHAT IT READS IS OF BULK AT MOST 1048576: true; the input reads as it did. -/
def groupNilUptoRow : OpenClaim := { program := "ytbklndjeankclaagreat", sum := "7a390cc1a353b40edc5682d9ff17a09fd0d91e237e449f535721601e2c1184c3", func := "acequia/acequialaw17.GroupNil", spec := "groupNil", inPlace := ["internal/bytealg.abigen_runtime_cmpstring"], unfollowed := true, recurses := true, plainKeys := false, apart := false, narrowed := true }
def GroupNilUptoSaid : Prop := groupNilUptoRow.holds Tryz.pinned (OpenSpec.upto groupNilSpec)

/-- 'acequialaw18.PortLost', WHERE WHAT IT READS IS OF BULK AT MOST 1048576: true; the input reads as it did. -/
def portLostUptoRow : OpenClaim := { program := "ytbklndjeankclaagreat", sum := "7a390cc1a353b40edc5682d9ff17a09fd0d91e237e449f535721601e2c1184c3", func := "acequia/acequialaw18.PortLost", spec := "portLost", inPlace := ["internal/bytealg.abigen_runtime_cmpstring"], unfollowed := true, recurses := true, plainKeys := false, apart := false, narrowed := true }
def PortLostUptoSaid : Prop := portLostUptoRow.holds Tryz.pinned (OpenSpec.upto portLostSpec)

/-- 'acequialaw18.PortNil', WHERE WHAT IT READS IS OF BULK AT MOST 1048576: true; the input reads as it did. -/
def portNilUptoRow : OpenClaim := { program := "ytbklndjeankclaagreat", sum := "7a390cc1a353b40edc5682d9ff17a09fd0d91e237e449f535721601e2c1184c3", func := "acequia/acequialaw18.PortNil", spec := "portNil", inPlace := ["internal/bytealg.abigen_runtime_cmpstring"], unfollowed := true, recurses := true, plainKeys := false, apart := false, narrowed := true }
def PortNilUptoSaid : Prop := portNilUptoRow.holds Tryz.pinned (OpenSpec.upto portNilSpec)

end Rows
end Go.Proofs.YtbklndjeankclaaGreat
