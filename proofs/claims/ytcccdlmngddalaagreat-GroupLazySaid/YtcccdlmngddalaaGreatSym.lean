/- Arguments as they come: each cell is one cell. -/
import Derived.Test.YtcccdlmngddalaaGreatRunA
import Derived.ProofKit
namespace Go.Proofs.YtcccdlmngddalaaGreat
open Go.RowKit
set_option linter.unusedVariables false
set_option linter.unusedSectionVars false
namespace R
variable [vl : Val]
section
variable {P : Program} {w : World} {r : Reach} {b : Nat} {t : TypeId} {v : Value}
theorem ok_one (h : Cell.okWide P w r b t v) : v.oneCell' = true := by
  unfold Cell.okWide at h
  split at h <;> first
    | rfl
    | (unfold Cell.ok at h; split at h <;> first | rfl | exact h.elim)
theorem ok_leaf {d : TypeDesc} (hd : P.underlying t = some d) (hn : (match d with | .struct _ | .array _ _ => false | _ => true) = true) (h : Value.okWide P w r b t v) : v.oneCell' = true := by
  unfold Value.okWide at h
  rw [hd] at h
  cases d <;> first | exact ok_one h | cases hn
theorem ok_agg {d : TypeDesc} (hd : P.underlying t = some d) (hn : (match d with | .struct _ | .array _ _ => true | _ => false) = true) (h : Value.okWide P w r b t v) :
    ∃ l : List Value, v = .agg l.toArray ∧ l.length = P.cellsOf t ∧ ∀ c ∈ l, c.oneCell' = true := by
  unfold Value.okWide at h
  rw [hd] at h
  have key : (∃ cs, v = .agg cs ∧ cs.size = P.cellsOf t ∧ Row.okWide P w r b t cs) → ∃ l : List Value, v = .agg l.toArray ∧ l.length = P.cellsOf t ∧ ∀ c ∈ l, c.oneCell' = true := by
    rintro ⟨⟨l⟩, rfl, h1, ts, _, _, h2⟩
    refine ⟨l, rfl, by simpa using h1, fun c hc => ?_⟩
    obtain ⟨i, hi⟩ := List.getElem?_of_mem hc
    obtain ⟨u, _, hu⟩ := h2 i c (by simpa using hi)
    exact ok_one hu
  cases d <;> first | exact key h | cases hn
end
end R
end Go.Proofs.YtcccdlmngddalaaGreat
