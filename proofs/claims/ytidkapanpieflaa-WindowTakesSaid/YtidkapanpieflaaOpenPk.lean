/- Packets that the caller hands in. -/
import Derived.Test.YtidkapanpieflaaTakes
import Derived.ProofKit
import Derived.Deep.SlicePairs
namespace Go.Proofs.Ytidkapanpieflaa
open Go.RowKit Go.ChangeShapes Go.WideShapes Go.ChangeAt
set_option linter.unusedVariables false
set_option linter.unusedSimpArgs false
set_option maxRecDepth 100000
theorem pk_row {H : Type} {enc : TypeId × Value → H} {W : World} {v : Value} {d : DataW H} {ps : List MemPlace} {base : Nat} (hv : Value.okWide Try.prog W .any base 26 v) (h : DataW.Trod enc Try.prog W 0 (fun _ => true) true 26 v d ps) :
    ∃ (n : Nat) (l : Nat → Pkt), PkRow W v n l := by
  obtain ⟨a0, len, cap, rfl⟩ := okWide_slice Try.underlying26 hv
  obtain ⟨fuel, hf⟩ := h
  rcases Go.Deep.open_slice_pairs Try.underlying26 Try.underlying36 (by kernel_rfl) rfl rfl (by kernel_rfl) (by kernel_rfl) hf with ⟨hcs, hx⟩ | ⟨a, len', cap', m, n, V0, V1, D0, D1, P0, P1, hcs, _, hl, hm, hmm, hx, hall⟩
  · simp [Value.cells] at hcs
    obtain ⟨rfl, rfl, rfl⟩ := hcs
    exact ⟨0, fun _ => ⟨0, ByteArray.empty⟩, none, 0, rfl, Nat.le_refl _, by unfold maxLen; omega, fun h => absurd h (by omega)⟩
  · simp [Value.cells] at hcs
    obtain ⟨rfl, rfl, rfl⟩ := hcs
    have hmc : m = cap := by rw [hmm]; simp
    have each : ∀ i, i < len → ∃ pk : Pkt, 0 ≤ pk.seq ∧ pk.seq < 4294967296 ∧ W.cell? (a.add (i * 2)) = some (.int .u32 pk.seq) ∧ W.cell? (a.add (i * 2 + 1)) = some (.string pk.body) := by
      intro i hi
      obtain ⟨h1, h2, h3, h4⟩ := hall i (by omega)
      obtain ⟨z, hz, _, hw⟩ := DataW.trod_int Try.underlying24 h3
      obtain ⟨b, hb, _, _⟩ := DataW.trod_string Try.underlying9 h4
      have hz : V0 i = .int .u32 z := by simpa using hz
      have hb : V1 i = .string b := by simpa using hb
      obtain ⟨b0, b1⟩ := u32_bd hw
      exact ⟨⟨z, b⟩, b0, b1, by rw [h1, hz], by rw [h2, hb]⟩
    by_cases h0 : 0 < len
    · obtain ⟨g, o, sp⟩ := a
      have hsp : sp = none := by
        obtain ⟨pk, _, _, h1, _⟩ := each 0 h0
        cases sp with
        | none => rfl
        | some x =>
          rw [Nat.zero_mul] at h1
          unfold World.cell? Addr.add at h1
          simp at h1
          split at h1 <;> cases h1
      subst hsp
      have each' : ∀ i, i < len → ∃ pk : Pkt, 0 ≤ pk.seq ∧ pk.seq < 4294967296 ∧ W.cell? ⟨g, o + i * 2, none⟩ = some (.int .u32 pk.seq) ∧ W.cell? ⟨g, o + i * 2 + 1, none⟩ = some (.string pk.body) := fun i hi => by
        have := each i hi
        simp only [addr_add, ← Nat.add_assoc] at this
        exact this
      refine ⟨len, fun i => if h : i < len then Classical.choose (each' i h) else ⟨0, ByteArray.empty⟩, _, cap, rfl, hl, hm, fun _ => ⟨g, o, rfl, ?_, fun i hi => ?_⟩⟩
      · obtain ⟨pk, _, _, h1, _⟩ := each' 0 h0
        rcases Nat.lt_or_ge g W.heap.size with h | h
        · exact h
        · exact absurd h1 (by simp [World.cell?, Array.getElem?_eq_none h])
      · dsimp only
        rw [dif_pos hi]
        exact Classical.choose_spec (each' i hi)
    · exact ⟨len, fun _ => ⟨0, ByteArray.empty⟩, _, cap, rfl, hl, hm, fun h => absurd h h0⟩
end Go.Proofs.Ytidkapanpieflaa
