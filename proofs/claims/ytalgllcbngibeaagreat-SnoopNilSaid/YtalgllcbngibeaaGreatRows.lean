/-
  No cell of these rows narrows 'for every input' (looked for: loops, veiled, ifaces, maps, wideKeys, modest, calm, conditions, laid).
  DERIVED. THE GIVEN ROWS OF THIS SEAT. 3 by the template 'for every input the law returns true; each argument reads behind the call as it read before'; 0 by the template 'total and deterministic' (their statements: YtalgllcbngibeaaGreatTotals.lean).
  GIVEN WITH THE SEED: the statements are not yours to turn. If you find one false, say at which input.
  Laid BY PROGRAM, IN A SANDBOX (cutbox-rows.mjs): the forced cells as the released guide's own fill.sh prints them over the translation c08bf30fa265d094… (all of the seat's roots in one cut). By AI agents, Wed Nov 11 2026. No macro, syntax, notation, axiom, sorry.
-/
import Derived.Test.YtalgllcbngibeaaGreatChecked
import GoSem.Claim
import GoSem.ClaimJoined
import GoSem.ClaimMapViews
import Derived.JoinedTies
import Derived.KernelRfl
namespace Go.Proofs.YtalgllcbngibeaaGreat
/- THE CELL 'sum', in the pinned program and in every row, IS THE sha256 OF THE DUMP (.gsa) THAT YtalgllcbngibeaaGreatProg.lean LOADS. Nothing in Lean hashes anything: it is a label: what it is worth is what the hold of that sum in a sandbox is worth. -/
noncomputable def Tryz.pinned : Pinned := { name := "ytalgllcbngibeaagreat", sum := "c08bf30fa265d09404d67299cdf16b16ed19984c3e6a7bf75f7f0ebf125c6104", checked := Tryz.checked }
namespace Rows
def none {H : Type} : Left H := { results := [], args := [] }

/-- 'acequialaw18.PortNil': WHATEVER THE INPUT: true; the input reads as it did. -/
def portNilSpec : ChangeSpec := { name := "portNil", fn := fun _ => fun
  | [d1, d2] => { results := [.lit (.bool true)], args := [d1, d2] }
  | _ => none }
def portNilRow : OpenClaim := { program := "ytalgllcbngibeaagreat", sum := "c08bf30fa265d09404d67299cdf16b16ed19984c3e6a7bf75f7f0ebf125c6104", func := "acequia/acequialaw18.PortNil", spec := "portNil", inPlace := ["internal/bytealg.abigen_runtime_cmpstring"], unfollowed := true, recurses := true, plainKeys := false, apart := false }
def PortNilSaid : Prop := portNilRow.holds Tryz.pinned (OpenSpec.ofChange portNilSpec)

/-- ITS FALSE NEIGHBOUR: 'it returns false'. Refute it at one input. -/
def portNilWrong : ChangeSpec := { name := "portNil", fn := fun _ => fun
  | [d1, d2] => { results := [.lit (.bool false)], args := [d1, d2] }
  | _ => none }
def PortNilWrongFalsely : Prop := portNilRow.holds Tryz.pinned (OpenSpec.ofChange portNilWrong)

/-- 'acequialaw25.SnoopYields': WHATEVER THE INPUT: true; the input reads as it did. -/
def snoopYieldsSpec : ChangeSpec := { name := "snoopYields", fn := fun _ => fun
  | [d1, d2, d3] => { results := [.lit (.bool true)], args := [d1, d2, d3] }
  | _ => none }
def snoopYieldsRow : OpenClaim := { program := "ytalgllcbngibeaagreat", sum := "c08bf30fa265d09404d67299cdf16b16ed19984c3e6a7bf75f7f0ebf125c6104", func := "acequia/acequialaw25.SnoopYields", spec := "snoopYields", inPlace := ["internal/bytealg.abigen_runtime_cmpstring"], unfollowed := true, recurses := true, plainKeys := false, apart := false }
def SnoopYieldsSaid : Prop := snoopYieldsRow.holds Tryz.pinned (OpenSpec.ofChange snoopYieldsSpec)

/-- ITS FALSE NEIGHBOUR: 'it returns false'. Refute it at one input. -/
def snoopYieldsWrong : ChangeSpec := { name := "snoopYields", fn := fun _ => fun
  | [d1, d2, d3] => { results := [.lit (.bool false)], args := [d1, d2, d3] }
  | _ => none }
def SnoopYieldsWrongFalsely : Prop := snoopYieldsRow.holds Tryz.pinned (OpenSpec.ofChange snoopYieldsWrong)

/-- 'acequialaw25.SnoopNil': WHATEVER THE INPUT: true; the input reads as it did. -/
def snoopNilSpec : ChangeSpec := { name := "snoopNil", fn := fun _ => fun
  | [d1, d2, d3] => { results := [.lit (.bool true)], args := [d1, d2, d3] }
  | _ => none }
def snoopNilRow : OpenClaim := { program := "ytalgllcbngibeaagreat", sum := "c08bf30fa265d09404d67299cdf16b16ed19984c3e6a7bf75f7f0ebf125c6104", func := "acequia/acequialaw25.SnoopNil", spec := "snoopNil", inPlace := ["internal/bytealg.abigen_runtime_cmpstring"], unfollowed := true, recurses := true, plainKeys := false, apart := false }
def SnoopNilSaid : Prop := snoopNilRow.holds Tryz.pinned (OpenSpec.ofChange snoopNilSpec)

/-- ITS FALSE NEIGHBOUR: 'it returns false'. Refute it at one input. -/
def snoopNilWrong : ChangeSpec := { name := "snoopNil", fn := fun _ => fun
  | [d1, d2, d3] => { results := [.lit (.bool false)], args := [d1, d2, d3] }
  | _ => none }
def SnoopNilWrongFalsely : Prop := snoopNilRow.holds Tryz.pinned (OpenSpec.ofChange snoopNilWrong)

/- THE SECOND FORM. 'bulk': how many values and letters a reading holds, each counted each time it is reached (what is shared counts as often as it is met; a slice's spare places count too). A statement '..UptoSaid' is the law's where the arguments, and the package variables that the reading takes, are together of bulk at most 1048576: NARROWER than '..Said'. Prove '..Said' where nothing that the law and all that it calls make is longer than what came in: it says more and counts as full. Else prove '..UptoSaid'. A law counts once. -/
mutual
def uptoBulk {H : Type} : DataW H → Nat
  | .lit (.string bytes) => bytes.length + 1
  | .lit _ => 1
  | .nil => 1
  | .ptr d => uptoBulk d + 1
  | .slice elems spare => uptoBulkAll elems + uptoBulkAll spare + 1
  | .agg parts => uptoBulkAll parts + 1
  | .iface _ d => uptoBulk d + 1
  | .map entries => uptoBulkEntries entries + 1
  | .held _ => 1
def uptoBulkAll {H : Type} : List (DataW H) → Nat
  | [] => 0
  | d :: r => uptoBulk d + uptoBulkAll r
def uptoBulkEntries {H : Type} : List (Lit × DataW H) → Nat
  | [] => 0
  | x :: r => uptoBulkEntry x + uptoBulkEntries r
def uptoBulkEntry {H : Type} : Lit × DataW H → Nat
  | (.string bytes, d) => bytes.length + uptoBulk d + 1
  | (_, d) => uptoBulk d + 1
 end
def uptoSmall : (H : Type) → List (DataW H) → Bool := fun _ ds => decide (uptoBulkAll ds ≤ 1048576)
def OpenSpec.upto (s : _root_.Go.ChangeSpec) : _root_.Go.OpenSpec := { _root_.Go.OpenSpec.ofChange s with cond := some uptoSmall }

/-- 'acequialaw18.PortNil', WHERE WHAT IT READS IS OF BULK AT MOST 1048576: true; the input reads as it did. -/
def portNilUptoRow : OpenClaim := { program := "ytalgllcbngibeaagreat", sum := "c08bf30fa265d09404d67299cdf16b16ed19984c3e6a7bf75f7f0ebf125c6104", func := "acequia/acequialaw18.PortNil", spec := "portNil", inPlace := ["internal/bytealg.abigen_runtime_cmpstring"], unfollowed := true, recurses := true, plainKeys := false, apart := false, narrowed := true }
def PortNilUptoSaid : Prop := portNilUptoRow.holds Tryz.pinned (OpenSpec.upto portNilSpec)

/-- 'acequialaw25.SnoopYields', WHERE WHAT IT READS IS OF BULK AT MOST 1048576: true; the input reads as it did. -/
def snoopYieldsUptoRow : OpenClaim := { program := "ytalgllcbngibeaagreat", sum := "c08bf30fa265d09404d67299cdf16b16ed19984c3e6a7bf75f7f0ebf125c6104", func := "acequia/acequialaw25.SnoopYields", spec := "snoopYields", inPlace := ["internal/bytealg.abigen_runtime_cmpstring"], unfollowed := true, recurses := true, plainKeys := false, apart := false, narrowed := true }
def SnoopYieldsUptoSaid : Prop := snoopYieldsUptoRow.holds Tryz.pinned (OpenSpec.upto snoopYieldsSpec)

/-- 'acequialaw25.SnoopNil', WHERE WHAT IT READS IS OF BULK AT MOST 1048576: true; the input reads as it did. -/
def snoopNilUptoRow : OpenClaim := { program := "ytalgllcbngibeaagreat", sum := "c08bf30fa265d09404d67299cdf16b16ed19984c3e6a7bf75f7f0ebf125c6104", func := "acequia/acequialaw25.SnoopNil", spec := "snoopNil", inPlace := ["internal/bytealg.abigen_runtime_cmpstring"], unfollowed := true, recurses := true, plainKeys := false, apart := false, narrowed := true }
def SnoopNilUptoSaid : Prop := snoopNilUptoRow.holds Tryz.pinned (OpenSpec.upto snoopNilSpec)

end Rows
end Go.Proofs.YtalgllcbngibeaaGreat
