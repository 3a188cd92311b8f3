/- Calls (kind, body, number) that the caller hands in. -/
import Derived.Test.YtidkapanpieflaaActs
import Derived.ProofKit
import Derived.Deep.Slices
namespace Go.Proofs.Ytidkapanpieflaa
open Go.RowKit Go.ChangeShapes Go.WideShapes Go.ChangeAt
set_option linter.unusedVariables false
set_option linter.unusedSimpArgs false
set_option maxRecDepth 100000
theorem act_row {H : Type} {enc : TypeId × Value → H} {W : World} {v : Value} {d : DataW H} {ps : List MemPlace} {base : Nat} (hv : Value.okWide Try.prog W .any base 46 v) (h : DataW.Trod enc Try.prog W 0 (fun _ => true) true 46 v d ps) :
    ∃ (n : Nat) (l : Nat → ActV), ActRow W v n l := by
  obtain ⟨a0, len, cap, rfl⟩ := okWide_slice Try.underlying46 hv
  obtain ⟨fuel, hf⟩ := h
  rcases Go.Deep.open_slice Try.underlying46 hf with ⟨hcs, hx⟩ | ⟨a, len', cap', m, n, D, Pl, hcs, _, hl, hm, hmm, hx, hall⟩
  · simp [Value.cells] at hcs
    obtain ⟨rfl, rfl, rfl⟩ := hcs
    exact ⟨0, fun _ => ⟨0, ByteArray.empty, 0⟩, none, 0, rfl, Nat.le_refl _, by unfold maxLen; omega, fun h => absurd h (by omega)⟩
  · simp [Value.cells] at hcs
    obtain ⟨rfl, rfl, rfl⟩ := hcs
    have hmc : m = cap := by rw [hmm]; simp
    have each : ∀ i, i < len → ∃ z : ActV, (-9223372036854775808 ≤ z.kind ∧ z.kind ≤ 9223372036854775807) ∧ (-9223372036854775808 ≤ z.n ∧ z.n ≤ 9223372036854775807) ∧ W.cell? (a.add (i * 3)) = some (.int .i64 z.kind) ∧ W.cell? (a.add (i * 3 + 1)) = some (.string z.body) ∧ W.cell? (a.add (i * 3 + 2)) = some (.int .i64 z.n) := by
      intro i hi
      obtain ⟨cs', h1, h2⟩ := hall i (by omega)
      rw [show Try.prog.cellsOf 49 = 3 from by kernel_rfl] at h1
      obtain ⟨_, hlen, hcell⟩ := World.cells?_some h1
      obtain ⟨xs, k, hk, hxy, _, hxl, hg⟩ := DataW.trod_struct Try.underlying49 h2
      match xs, hxl, cs', hlen with
      | [y0, y1, y2], _, [v0, v1, v2], _ =>
        have g0 : DataW.trod enc Try.prog W 0 (fun _ => true) true k 3 (List.take (Try.prog.cellsOf 3) (List.drop 0 [v0, v1, v2])) = [y0, y1, y2][0]? := hg 0 _ rfl
        have g1 : DataW.trod enc Try.prog W 0 (fun _ => true) true k 9 (List.take (Try.prog.cellsOf 9) (List.drop 1 [v0, v1, v2])) = [y0, y1, y2][1]? := hg 1 _ rfl
        have g2 : DataW.trod enc Try.prog W 0 (fun _ => true) true k 3 (List.take (Try.prog.cellsOf 3) (List.drop 2 [v0, v1, v2])) = [y0, y1, y2][2]? := hg 2 _ rfl
        rw [show Try.prog.cellsOf 3 = 1 from by kernel_rfl] at g0 g2
        rw [show Try.prog.cellsOf 9 = 1 from by kernel_rfl] at g1
        obtain ⟨z0, e0, _, b0⟩ := DataW.trod_int Try.underlying3 (by simpa using g0)
        obtain ⟨z1, e1, _, _⟩ := DataW.trod_string Try.underlying9 (by simpa using g1)
        obtain ⟨z2, e2, _, b2⟩ := DataW.trod_int Try.underlying3 (by simpa using g2)
        have c0 := hcell 0 (by omega)
        have c1 := hcell 1 (by omega)
        have c2 := hcell 2 (by omega)
        rw [Go.Deep.add_add] at c0 c1 c2
        simp at e0 e1 e2
        subst e0 e1 e2
        exact ⟨⟨z0, z1, z2⟩, i64_bd b0, i64_bd b2, by simpa using c0, by simpa using c1, by simpa using c2⟩
    by_cases h0 : 0 < len
    · obtain ⟨g, o, sp⟩ := a
      have hsp : sp = none := by
        obtain ⟨z, _, _, h1, _⟩ := each 0 h0
        cases sp with
        | none => rfl
        | some x =>
          rw [Nat.zero_mul] at h1
          unfold World.cell? Addr.add at h1
          simp at h1
          split at h1 <;> cases h1
      subst hsp
      have each' : ∀ i, i < len → ∃ z : ActV, (-9223372036854775808 ≤ z.kind ∧ z.kind ≤ 9223372036854775807) ∧ (-9223372036854775808 ≤ z.n ∧ z.n ≤ 9223372036854775807) ∧ W.cell? ⟨g, o + i * 3, none⟩ = some (.int .i64 z.kind) ∧ W.cell? ⟨g, o + i * 3 + 1, none⟩ = some (.string z.body) ∧ W.cell? ⟨g, o + i * 3 + 2, none⟩ = some (.int .i64 z.n) := fun i hi => by
        have := each i hi
        simp only [addr_add, ← Nat.add_assoc] at this
        exact this
      refine ⟨len, fun i => if h : i < len then Classical.choose (each' i h) else ⟨0, ByteArray.empty, 0⟩, _, cap, rfl, hl, hm, fun _ => ⟨g, o, rfl, ?_, fun i hi => ?_⟩⟩
      · obtain ⟨z, _, _, h1, _⟩ := each' 0 h0
        rcases Nat.lt_or_ge g W.heap.size with h | h
        · exact h
        · exact absurd h1 (by simp [World.cell?, Array.getElem?_eq_none h])
      · dsimp only
        rw [dif_pos hi]
        exact Classical.choose_spec (each' i hi)
    · exact ⟨len, fun _ => ⟨0, ByteArray.empty, 0⟩, _, cap, rfl, hl, hm, fun h => absurd h h0⟩
end Go.Proofs.Ytidkapanpieflaa
