/- Steps that the caller hands in. -/
import Derived.Test.YtidkapanpieflaaCalmR
import Derived.ProofKit
import Derived.OpenShut
import Derived.SizedLaws
import Derived.Deep.SlicePairs
namespace Go.Proofs.Ytidkapanpieflaa
open Go.RowKit Go.ChangeShapes Go.WideShapes Go.ChangeAt
set_option linter.unusedVariables false
set_option linter.unusedSimpArgs false
set_option maxRecDepth 100000
theorem step_row {H : Type} {enc : TypeId × Value → H} {W : World} {v : Value} {d : DataW H} {ps : List MemPlace} {base : Nat} (hv : Value.okWide Try.prog W .any base 78 v) (h : DataW.Trod enc Try.prog W 0 (fun _ => true) true 78 v d ps) (hz : ∀ n ∈ d.weights Try.prog 78, n ≤ reachBytes) :
    ∃ (n : Nat) (l : Nat → Int × Int), StepRow W v n l ∧ n ≤ 8796093022208 := by
  obtain ⟨a0, len, cap, rfl⟩ := okWide_slice Try.underlying78 hv
  obtain ⟨fuel, hf⟩ := h
  rcases Go.Deep.open_slice_pairs Try.underlying78 Try.underlying82 (by kernel_rfl) rfl rfl (by kernel_rfl) (by kernel_rfl) hf with ⟨hcs, hx⟩ | ⟨a, len', cap', m, n, V0, V1, D0, D1, P0, P1, hcs, _, hl, hm, hmm, hx, hall⟩
  · simp [Value.cells] at hcs
    obtain ⟨rfl, rfl, rfl⟩ := hcs
    exact ⟨0, fun _ => (0, 0), ⟨none, 0, rfl, Nat.le_refl _, by unfold maxLen; omega, fun h => absurd h (by omega)⟩, by omega⟩
  · simp [Value.cells] at hcs
    obtain ⟨rfl, rfl, rfl⟩ := hcs
    have hmc : m = cap := by rw [hmm]; simp
    have hb : len * 16 ≤ 140737488355328 := by
      have hd : d = .slice ((List.range len).map fun i => .agg [D0 i, D1 i]) ((List.range (m - len)).map fun j => .agg [D0 (len + j), D1 (len + j)]) := by cases hx; rfl
      rw [hd] at hz
      have := hz ((((List.range len).map fun i => DataW.agg [D0 i, D1 i]).length + ((List.range (m - len)).map fun j => DataW.agg [D0 (len + j), D1 (len + j)]).length) * Try.prog.bytesOf 82) (by
        unfold DataW.weights
        rw [Try.underlying78]
        exact List.mem_cons_self)
      rw [show Try.prog.bytesOf 82 = 16 from by kernel_rfl] at this
      simp at this
      unfold reachBytes at this
      have : len * 16 ≤ (len + (m - len)) * 16 := Nat.mul_le_mul_right _ (by omega)
      omega
    have each : ∀ i, i < len → ∃ z : Int × Int, W.cell? (a.add (i * 2)) = some (.int .i64 z.1) ∧ W.cell? (a.add (i * 2 + 1)) = some (.int .i64 z.2) := by
      intro i hi
      obtain ⟨h0, h1, g0, g1⟩ := hall i (by omega)
      obtain ⟨z0, e0, _, b0⟩ := DataW.trod_int Try.underlying3 (x := (D0 i, P0 i)) g0
      obtain ⟨z1, e1, _, b1⟩ := DataW.trod_int Try.underlying3 (x := (D1 i, P1 i)) g1
      simp at e0 e1
      rw [e0] at h0
      rw [e1] at h1
      exact ⟨(z0, z1), h0, h1⟩
    by_cases h0 : 0 < len
    · obtain ⟨g, o, sp⟩ := a
      have hsp : sp = none := by
        obtain ⟨z, h1, _⟩ := each 0 h0
        cases sp with
        | none => rfl
        | some x =>
          rw [Nat.zero_mul] at h1
          unfold World.cell? Addr.add at h1
          simp at h1
          split at h1 <;> cases h1
      subst hsp
      have each' : ∀ i, i < len → ∃ z : Int × Int, W.cell? ⟨g, o + i * 2, none⟩ = some (.int .i64 z.1) ∧ W.cell? ⟨g, o + i * 2 + 1, none⟩ = some (.int .i64 z.2) := fun i hi => by
        obtain ⟨z, h1, h2⟩ := each i hi
        rw [addr_add] at h1 h2
        exact ⟨z, h1, h2⟩
      refine ⟨len, fun i => if h : i < len then Classical.choose (each' i h) else (0, 0), ⟨_, cap, rfl, hl, hm, fun _ => ⟨g, o, rfl, ?_, fun i hi => ?_⟩⟩, by omega⟩
      · obtain ⟨z, h1, _⟩ := each' 0 h0
        exact World.block_lt_of_cell? W _ h1
      · simp only [dif_pos hi]
        exact Classical.choose_spec (each' i hi)
    · exact ⟨len, fun _ => (0, 0), ⟨_, cap, rfl, hl, hm, fun h => absurd h h0⟩, by omega⟩
end Go.Proofs.Ytidkapanpieflaa
