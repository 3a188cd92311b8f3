/-
  No cell of these rows narrows 'for every input' (looked for: loops, veiled, ifaces, maps, wideKeys, modest, calm, conditions, laid).
  DERIVED. THE GIVEN ROWS OF THIS SEAT. 5 by the template 'for every input the law returns true; each argument reads behind the call as it read before'; 0 by the template 'total and deterministic' (their statements: YtcccdlmngddalaaGreatTotals.lean).
  GIVEN WITH THE SEED: the statements are not yours to turn. If you find one false, say at which input.
  Laid BY PROGRAM, IN A SANDBOX (cutbox-rows.mjs): the forced cells as the released guide's own fill.sh prints them over the translation 99df4876432e1863… (all of the seat's roots in one cut). By AI agents, Wed Nov 11 2026. No macro, syntax, notation, axiom, sorry.
-/
import Derived.Test.YtcccdlmngddalaaGreatChecked
import GoSem.Claim
import GoSem.ClaimJoined
import GoSem.ClaimMapViews
import Derived.JoinedTies
import Derived.KernelRfl
namespace Go.Proofs.YtcccdlmngddalaaGreat
/- THE CELL 'sum', in the pinned program and in every row, IS THE sha256 OF THE DUMP (.gsa) THAT YtcccdlmngddalaaGreatProg.lean LOADS. Nothing in Lean hashes anything: it is a label: what it is worth is what the hold of that sum in a sandbox is worth. -/
noncomputable def Tryz.pinned : Pinned := { name := "ytcccdlmngddalaagreat", sum := "99df4876432e1863849b60f8384593cd93efa3e6cf2dee42a374691cdf07eabf", checked := Tryz.checked }
namespace Rows
def none {H : Type} : Left H := { results := [], args := [] }

/-- 'acequialaw17.GroupFull': WHATEVER THE INPUT: true; the input reads as it did. -/
def groupFullSpec : ChangeSpec := { name := "groupFull", fn := fun _ => fun
  | [d1, d2, d3] => { results := [.lit (.bool true)], args := [d1, d2, d3] }
  | _ => none }
def groupFullRow : OpenClaim := { program := "ytcccdlmngddalaagreat", sum := "99df4876432e1863849b60f8384593cd93efa3e6cf2dee42a374691cdf07eabf", func := "acequia/acequialaw17.GroupFull", spec := "groupFull", inPlace := ["internal/bytealg.abigen_runtime_cmpstring"], unfollowed := true, recurses := true, plainKeys := false, apart := false }
def GroupFullSaid : Prop := groupFullRow.holds Tryz.pinned (OpenSpec.ofChange groupFullSpec)

/-- ITS FALSE NEIGHBOUR: 'it returns false'. Refute it at one input. -/
def groupFullWrong : ChangeSpec := { name := "groupFull", fn := fun _ => fun
  | [d1, d2, d3] => { results := [.lit (.bool false)], args := [d1, d2, d3] }
  | _ => none }
def GroupFullWrongFalsely : Prop := groupFullRow.holds Tryz.pinned (OpenSpec.ofChange groupFullWrong)

/-- 'acequialaw17.GroupEnds': WHATEVER THE INPUT: true; the input reads as it did. -/
def groupEndsSpec : ChangeSpec := { name := "groupEnds", fn := fun _ => fun
  | [d1, d2, d3] => { results := [.lit (.bool true)], args := [d1, d2, d3] }
  | _ => none }
def groupEndsRow : OpenClaim := { program := "ytcccdlmngddalaagreat", sum := "99df4876432e1863849b60f8384593cd93efa3e6cf2dee42a374691cdf07eabf", func := "acequia/acequialaw17.GroupEnds", spec := "groupEnds", inPlace := ["internal/bytealg.abigen_runtime_cmpstring"], unfollowed := true, recurses := true, plainKeys := false, apart := false }
def GroupEndsSaid : Prop := groupEndsRow.holds Tryz.pinned (OpenSpec.ofChange groupEndsSpec)

/-- ITS FALSE NEIGHBOUR: 'it returns false'. Refute it at one input. -/
def groupEndsWrong : ChangeSpec := { name := "groupEnds", fn := fun _ => fun
  | [d1, d2, d3] => { results := [.lit (.bool false)], args := [d1, d2, d3] }
  | _ => none }
def GroupEndsWrongFalsely : Prop := groupEndsRow.holds Tryz.pinned (OpenSpec.ofChange groupEndsWrong)

/-- 'acequialaw17.GroupLazy': WHATEVER THE INPUT: true; the input reads as it did. -/
def groupLazySpec : ChangeSpec := { name := "groupLazy", fn := fun _ => fun
  | [d1, d2, d3] => { results := [.lit (.bool true)], args := [d1, d2, d3] }
  | _ => none }
def groupLazyRow : OpenClaim := { program := "ytcccdlmngddalaagreat", sum := "99df4876432e1863849b60f8384593cd93efa3e6cf2dee42a374691cdf07eabf", func := "acequia/acequialaw17.GroupLazy", spec := "groupLazy", inPlace := ["internal/bytealg.abigen_runtime_cmpstring"], unfollowed := true, recurses := true, plainKeys := false, apart := false }
def GroupLazySaid : Prop := groupLazyRow.holds Tryz.pinned (OpenSpec.ofChange groupLazySpec)

/-- ITS FALSE NEIGHBOUR: 'it returns false'. Refute it at one input. -/
def groupLazyWrong : ChangeSpec := { name := "groupLazy", fn := fun _ => fun
  | [d1, d2, d3] => { results := [.lit (.bool false)], args := [d1, d2, d3] }
  | _ => none }
def GroupLazyWrongFalsely : Prop := groupLazyRow.holds Tryz.pinned (OpenSpec.ofChange groupLazyWrong)

/-- 'acequialaw18.PortGroups': WHATEVER THE INPUT: true; the input reads as it did. -/
def portGroupsSpec : ChangeSpec := { name := "portGroups", fn := fun _ => fun
  | [d1, d2, d3] => { results := [.lit (.bool true)], args := [d1, d2, d3] }
  | _ => none }
def portGroupsRow : OpenClaim := { program := "ytcccdlmngddalaagreat", sum := "99df4876432e1863849b60f8384593cd93efa3e6cf2dee42a374691cdf07eabf", func := "acequia/acequialaw18.PortGroups", spec := "portGroups", inPlace := ["internal/bytealg.abigen_runtime_cmpstring"], unfollowed := true, recurses := true, plainKeys := false, apart := false }
def PortGroupsSaid : Prop := portGroupsRow.holds Tryz.pinned (OpenSpec.ofChange portGroupsSpec)

/-- ITS FALSE NEIGHBOUR: 'it returns false'. Refute it at one input. -/
def portGroupsWrong : ChangeSpec := { name := "portGroups", fn := fun _ => fun
  | [d1, d2, d3] => { results := [.lit (.bool false)], args := [d1, d2, d3] }
  | _ => none }
def PortGroupsWrongFalsely : Prop := portGroupsRow.holds Tryz.pinned (OpenSpec.ofChange portGroupsWrong)

/-- 'acequialaw18.PortLost': WHATEVER THE INPUT: true; the input reads as it did. -/
def portLostSpec : ChangeSpec := { name := "portLost", fn := fun _ => fun
  | [d1, d2] => { results := [.lit (.bool true)], args := [d1, d2] }
  | _ => none }
def portLostRow : OpenClaim := { program := "ytcccdlmngddalaagreat", sum := "99df4876432e1863849b60f8384593cd93efa3e6cf2dee42a374691cdf07eabf", func := "acequia/acequialaw18.PortLost", spec := "portLost", inPlace := ["internal/bytealg.abigen_runtime_cmpstring"], unfollowed := true, recurses := true, plainKeys := false, apart := false }
def PortLostSaid : Prop := portLostRow.holds Tryz.pinned (OpenSpec.ofChange portLostSpec)

/-- ITS FALSE NEIGHBOUR: 'it returns false'. Refute it at one input. -/
def portLostWrong : ChangeSpec := { name := "portLost", fn := fun _ => fun
  | [d1, d2] => { results := [.lit (.bool false)], args := [d1, d2] }
  | _ => none }
def PortLostWrongFalsely : Prop := portLostRow.holds Tryz.pinned (OpenSpec.ofChange portLostWrong)

/- THE SECOND FORM. 'bulk': how many values and letters a reading holds, each counted each time it is reached (what is shared counts as often as it is met; a slice's spare places count too). A statement '..UptoSaid' is the law's where the arguments, and the package variables that the reading takes, are together of bulk at most 1048576: NARROWER than '..Said'. Prove '..Said' where nothing that the law and all that it calls make is longer than what came in: it says more and counts as full. Else prove '..UptoSaid'. A law counts once. -/
mutual
def uptoBulk {H : Type} : DataW H → Nat
  | .lit (.string bytes) => bytes.length + 1
  | .lit _ => 1
  | .nil => 1
  | .ptr d => uptoBulk d + 1
  | .slice elems spare => uptoBulkAll elems + uptoBulkAll spare + 1
  | .agg parts => uptoBulkAll parts + 1
  | .iface _ d => uptoBulk d + 1
  | .map entries => uptoBulkEntries entries + 1
  | .held _ => 1
def uptoBulkAll {H : Type} : List (DataW H) → Nat
  | [] => 0
  | d :: r => uptoBulk d + uptoBulkAll r
def uptoBulkEntries {H : Type} : List (Lit × DataW H) → Nat
  | [] => 0
  | x :: r => uptoBulkEntry x + uptoBulkEntries r
def uptoBulkEntry {H : Type} : Lit × DataW H → Nat
  | (.string bytes, d) => bytes.length + uptoBulk d + 1
  | (_, d) => uptoBulk d + 1
 end
def uptoSmall : (H : Type) → List (DataW H) → Bool := fun _ ds => decide (uptoBulkAll ds ≤ 1048576)
def OpenSpec.upto (s : _root_.Go.ChangeSpec) : _root_.Go.OpenSpec := { _root_.Go.OpenSpec.ofChange s with cond := some uptoSmall }

/-- 'acequialaw17.GroupFull', WHERE WHAT IT READS IS OF BULK AT MOST 1048576: true; the input reads as it did. -/
def groupFullUptoRow : OpenClaim := { program := "ytcccdlmngddalaagreat", sum := "99df4876432e1863849b60f8384593cd93efa3e6cf2dee42a374691cdf07eabf", func := "acequia/acequialaw17.GroupFull", spec := "groupFull", inPlace := ["internal/bytealg.abigen_runtime_cmpstring"], unfollowed := true, recurses := true, plainKeys := false, apart := false, narrowed := true }
def GroupFullUptoSaid : Prop := groupFullUptoRow.holds Tryz.pinned (OpenSpec.upto groupFullSpec)

/-- 'acequialaw17.GroupEnds', WHERE WHAT IT READS IS OF BULK AT MOST 1048576: true; the input reads as it did. -/
def groupEndsUptoRow : OpenClaim := { program := "ytcccdlmngddalaagreat", sum := "99df4876432e1863849b60f8384593cd93efa3e6cf2dee42a374691cdf07eabf", func := "acequia/acequialaw17.GroupEnds", spec := "groupEnds", inPlace := ["internal/bytealg.abigen_runtime_cmpstring"], unfollowed := true, recurses := true, plainKeys := false, apart := false, narrowed := true }
def GroupEndsUptoSaid : Prop := groupEndsUptoRow.holds Tryz.pinned (OpenSpec.upto groupEndsSpec)

/-- 'acequialaw17.GroupLazy', WHERE WHAT IT READS IS OF BULK AT MOST 1048576: true; the input reads as it did. -/
def groupLazyUptoRow : OpenClaim := { program := "ytcccdlmngddalaagreat", sum := "99df4876432e1863849b60f8384593cd93efa3e6cf2dee42a374691cdf07eabf", func := "acequia/acequialaw17.GroupLazy", spec := "groupLazy", inPlace := ["internal/bytealg.abigen_runtime_cmpstring"], unfollowed := true, recurses := true, plainKeys := false, apart := false, narrowed := true }
def GroupLazyUptoSaid : Prop := groupLazyUptoRow.holds Tryz.pinned (OpenSpec.upto groupLazySpec)

/-- 'acequialaw18.PortGroups', WHERE WHAT IT READS IS OF BULK AT MOST 1048576: true; the input reads as it did. -/
def portGroupsUptoRow : OpenClaim := { program := "ytcccdlmngddalaagreat", sum := "99df4876432e1863849b60f8384593cd93efa3e6cf2dee42a374691cdf07eabf", func := "acequia/acequialaw18.PortGroups", spec := "portGroups", inPlace := ["internal/bytealg.abigen_runtime_cmpstring"], unfollowed := true, recurses := true, plainKeys := false, apart := false, narrowed := true }
def PortGroupsUptoSaid : Prop := portGroupsUptoRow.holds Tryz.pinned (OpenSpec.upto portGroupsSpec)

/-- 'acequialaw18.PortLost', WHERE WHAT IT READS IS OF BULK AT MOST 1048576: true; the input reads as it did. -/
def portLostUptoRow : OpenClaim := { program := "ytcccdlmngddalaagreat", sum := "99df4876432e1863849b60f8384593cd93efa3e6cf2dee42a374691cdf07eabf", func := "acequia/acequialaw18.PortLost", spec := "portLost", inPlace := ["internal/bytealg.abigen_runtime_cmpstring"], unfollowed := true, recurses := true, plainKeys := false, apart := false, narrowed := true }
def PortLostUptoSaid : Prop := portLostUptoRow.holds Tryz.pinned (OpenSpec.upto portLostSpec)

end Rows
end Go.Proofs.YtcccdlmngddalaaGreat
