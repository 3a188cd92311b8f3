/- Addresses in memory. (For a seat without tables.) -/
import Derived.Test.YtcccdlmngddalaaGreatRowM
import Derived.Test.YtcccdlmngddalaaGreatBlk
set_option linter.unusedVariables false
set_option linter.unusedSimpArgs false
namespace Go.Proofs.YtcccdlmngddalaaGreat
open Go.RowKit
theorem adrSz : (Tryz.prog.info? 36).map (·.size) = some 17 := by kernel_rfl
theorem u8Sz : (Tryz.prog.info? 5).map (·.size) = some 1 := by kernel_rfl
def z16 : List Int := List.replicate 16 0
theorem adrC_one (v : Bool) (xs : List Int) : ∀ u ∈ adrC v xs, u.oneCell' = true := by
  intro u hu
  unfold adrC at hu
  rcases List.mem_cons.1 hu with rfl | hu
  · rfl
  · obtain ⟨x, _, rfl⟩ := List.mem_map.1 hu
    rfl
theorem adrC_len (v : Bool) (xs : List Int) : (adrC v xs).length = xs.length + 1 := by simp [adrC]
theorem splice_all {w : World} {g : Nat} {t : TypeId} {cur cs : List Value} (h : Blk w g t (splice cur 0 cs)) (hl : cs.length = cur.length) : Blk w g t cs := by
  have : splice cur 0 cs = cs := by unfold splice; simp [hl]
  rwa [this] at h
def adrOk (b : List Int) : Prop := b.length = 16 ∧ ∀ x ∈ b, 0 ≤ x ∧ x < 256
end Go.Proofs.YtcccdlmngddalaaGreat
