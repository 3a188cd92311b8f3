/- Lists of integers that the caller hands in. -/
import Derived.Test.YtjjfihndgejibaaSerialLatest
import Derived.ProofKit
import Derived.Deep.Slices
namespace Go.Proofs.Ytjjfihndgejibaa
open Go.RowKit Go.ChangeShapes Go.WideShapes Go.ChangeAt
set_option linter.unusedVariables false
set_option linter.unusedSimpArgs false
set_option maxRecDepth 100000
theorem open_ints {H : Type} {enc : TypeId × Value → H} {W : World} {v : Value} {d : DataW H} {ps : List MemPlace} {base : Nat} {t e : TypeId} {k : IntKind} (ht : Try.prog.underlying t = some (.slice e)) (he : Try.prog.underlying e = some (.int k)) (hc : Try.prog.cellsOf e = 1)
    (hv : Value.okWide Try.prog W .any base t v) (h : DataW.Trod enc Try.prog W 0 (fun _ => true) true t v d ps) :
    ∃ (a : Option Addr) (zs : List Int) (cap : Nat), v = .slice a zs.length cap ∧ SlI W k a zs cap ∧ ∀ z ∈ zs, (Lit.int k z).wf = true := by
  obtain ⟨a0, len, cap, rfl⟩ := okWide_slice ht hv
  obtain ⟨fuel, hf⟩ := h
  rcases Go.Deep.open_slice ht hf with ⟨hcs, hx⟩ | ⟨a, len', cap', m, n, D, Pl, hcs, _, hl, hm, hmm, hx, hall⟩
  · simp [Value.cells] at hcs
    obtain ⟨rfl, rfl, rfl⟩ := hcs
    exact ⟨none, [], 0, rfl, ⟨Nat.le_refl _, by unfold maxLen; omega, fun h => absurd rfl h⟩, fun z hz => by cases hz⟩
  · simp [Value.cells] at hcs
    obtain ⟨rfl, rfl, rfl⟩ := hcs
    have hmc : m = cap := by rw [hmm]; simp
    have each : ∀ i, i < len → ∃ z : Int, W.cell? (a.add i) = some (.int k z) ∧ (Lit.int k z).wf = true := by
      intro i hi
      obtain ⟨cs', h1, h2⟩ := hall i (by omega)
      rw [hc, Nat.mul_one] at h1
      obtain ⟨_, hlen, hcell⟩ := World.cells?_some h1
      obtain ⟨z, hz, _, hw⟩ := DataW.trod_int he h2
      have c0 := hcell 0 (by omega)
      rw [Go.Deep.add_add, hz] at c0
      exact ⟨z, by simpa using c0, hw⟩
    let f : Nat → Int := fun i => if h : i < len then Classical.choose (each i h) else 0
    have hf1 : ∀ i, i < len → W.cell? (a.add i) = some (.int k (f i)) ∧ (Lit.int k (f i)).wf = true := fun i hi => by
      simp only [f, dif_pos hi]
      exact Classical.choose_spec (each i hi)
    have hlz : ((List.range len).map f).length = len := by simp
    refine ⟨some a, (List.range len).map f, cap, by rw [hlz], ⟨by rw [hlz]; exact hl, hm, fun hne => ?_⟩, fun z hz => ?_⟩
    · have h0 : 0 < len := by
        rcases Nat.eq_zero_or_pos len with h | h
        · subst h; exact absurd rfl hne
        · exact h
      obtain ⟨g, o, sp⟩ := a
      have hsp : sp = none := by
        have h1 := (hf1 0 h0).1
        cases sp with
        | none => rfl
        | some x =>
          unfold World.cell? Addr.add at h1
          simp at h1
          split at h1 <;> cases h1
      subst hsp
      refine ⟨g, o, rfl, ?_, fun i hi => ?_⟩
      · have h1 := (hf1 0 h0).1
        rw [addr_add] at h1
        rcases Nat.lt_or_ge g W.heap.size with h | h
        · exact h
        · exact absurd h1 (by simp [World.cell?, Array.getElem?_eq_none h])
      · rw [hlz] at hi
        have h1 := (hf1 i hi).1
        rw [addr_add] at h1
        rw [h1]
        simp [nth, List.getD, hi]
    · obtain ⟨i, hi, rfl⟩ := List.mem_map.1 hz
      exact (hf1 i (List.mem_range.1 hi)).2
end Go.Proofs.Ytjjfihndgejibaa
