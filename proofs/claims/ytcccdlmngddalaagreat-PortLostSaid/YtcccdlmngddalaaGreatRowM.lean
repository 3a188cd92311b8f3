/- Rows that can be read. (For a seat without tables.) -/
import Derived.Test.YtcccdlmngddalaaGreatRowP
import Derived.Test.YtcccdlmngddalaaGreatBlk
set_option linter.unusedVariables false
set_option linter.unusedSimpArgs false
namespace Go.Proofs.YtcccdlmngddalaaGreat
open Go.RowKit
def Reads (w : World) (v : Value) (n : Nat) (xs : List Value) : Prop :=
  ∃ ad cap, v = .slice ad n cap ∧ n ≤ cap ∧ cap ≤ maxLen ∧ (0 < n → ∃ g o, ad = some ⟨g, o, none⟩ ∧ ∀ i u, xs[i]? = some u → w.cell? ⟨g, o + i, none⟩ = some u)
theorem Row.reads {w : World} {f : Nat → Prop} {e : TypeId} {sz n : Nat} {v : Value} {xs : List Value} (h : Row w f e sz v n xs) : Reads w v n xs := by
  obtain ⟨ad, cap, rfl, hn, hc, hg⟩ := h.form
  refine ⟨ad, cap, rfl, hn, hc, fun h => ?_⟩
  obtain ⟨g, rfl, _, _, hcg⟩ := hg h
  exact ⟨g, 0, rfl, fun i u hu => by rw [Nat.zero_add]; exact hcg i u hu⟩
theorem Reads.keep {F : Nat → Prop} {w w' : World} {v : Value} {n : Nat} {xs : List Value} (h : Reads w v n xs) (hm : Mod F w w') (hF : ∀ g, F g → ∀ o, w.cell? ⟨g, o, none⟩ = none ∨ ¬ v.ownBlock = some g) (hv : ∀ ad n c, v = .slice ad n c → ∀ g o, ad = some ⟨g, o, none⟩ → ¬ F g) : Reads w' v n xs := by
  obtain ⟨ad, cap, h1, h2, h3, h4⟩ := h
  refine ⟨ad, cap, h1, h2, h3, fun h => ?_⟩
  obtain ⟨g, o, h5, h6⟩ := h4 h
  exact ⟨g, o, h5, fun i u hu => hm.cell (hv _ _ _ h1 g o h5) (h6 i u hu)⟩
theorem Reads.keep0 {w w' : World} {v : Value} {n : Nat} {xs : List Value} (h : Reads w v n xs) (hm : Mod (fun _ => False) w w') : Reads w' v n xs := by
  obtain ⟨ad, cap, h1, h2, h3, h4⟩ := h
  refine ⟨ad, cap, h1, h2, h3, fun h => ?_⟩
  obtain ⟨g, o, h5, h6⟩ := h4 h
  exact ⟨g, o, h5, fun i u hu => hm.cell (fun f => f) (h6 i u hu)⟩
end Go.Proofs.YtcccdlmngddalaaGreat
