/- A table's rows in memory: what can be read of them. -/
import Derived.Test.YtegjamjognpdkaaGreatRowP
import Derived.Test.YtegjamjognpdkaaGreatBlk
namespace Go.Proofs.YtegjamjognpdkaaGreat
open Go.RowKit
set_option linter.unusedVariables false
set_option linter.unusedSimpArgs false
/-- a slice that can be read -/
def Reads (w : World) (v : Value) (n : Nat) (xs : List Value) : Prop :=
  ∃ ad cap, v = .slice ad n cap ∧ n ≤ cap ∧ cap ≤ maxLen ∧ (0 < n → ∃ g o, ad = some ⟨g, o, none⟩ ∧ ∀ i u, xs[i]? = some u → w.cell? ⟨g, o + i, none⟩ = some u)
theorem Row.reads {w : World} {f : Nat → Prop} {e : TypeId} {sz n : Nat} {v : Value} {xs : List Value} (h : Row w f e sz v n xs) : Reads w v n xs := by
  obtain ⟨ad, cap, rfl, hn, hc, hg⟩ := h.form
  refine ⟨ad, cap, rfl, hn, hc, fun h => ?_⟩
  obtain ⟨g, rfl, _, _, hcg⟩ := hg h
  exact ⟨g, 0, rfl, fun i u hu => by rw [Nat.zero_add]; exact hcg i u hu⟩
theorem Reads.keep {F : Nat → Prop} {w w' : World} {v : Value} {n : Nat} {xs : List Value} (h : Reads w v n xs) (hm : Mod F w w') (hF : ∀ g, F g → ∀ o, w.cell? ⟨g, o, none⟩ = none ∨ ¬ v.ownBlock = some g) (hv : ∀ ad n c, v = .slice ad n c → ∀ g o, ad = some ⟨g, o, none⟩ → ¬ F g) : Reads w' v n xs := by
  obtain ⟨ad, cap, h1, h2, h3, h4⟩ := h
  refine ⟨ad, cap, h1, h2, h3, fun h => ?_⟩
  obtain ⟨g, o, h5, h6⟩ := h4 h
  exact ⟨g, o, h5, fun i u hu => hm.cell (hv _ _ _ h1 g o h5) (h6 i u hu)⟩
theorem Reads.keep0 {w w' : World} {v : Value} {n : Nat} {xs : List Value} (h : Reads w v n xs) (hm : Mod (fun _ => False) w w') : Reads w' v n xs := by
  obtain ⟨ad, cap, h1, h2, h3, h4⟩ := h
  refine ⟨ad, cap, h1, h2, h3, fun h => ?_⟩
  obtain ⟨g, o, h5, h6⟩ := h4 h
  exact ⟨g, o, h5, fun i u hu => hm.cell (fun f => f) (h6 i u hu)⟩
/-- .. while blocks of F change, of which it reads none -/
def Off (F : Nat → Prop) (v : Value) : Prop := ∀ g, v.ownBlock = some g → ¬ F g
theorem Reads.far {F : Nat → Prop} {w w' : World} {v : Value} {n : Nat} {xs : List Value} (h : Reads w v n xs) (hm : Mod F w w') (hv : Off F v) : Reads w' v n xs := by
  obtain ⟨ad, cap, h1, h2, h3, h4⟩ := h
  refine ⟨ad, cap, h1, h2, h3, fun h => ?_⟩
  obtain ⟨g, o, h5, h6⟩ := h4 h
  exact ⟨g, o, h5, fun i u hu => hm.cell (hv g (by rw [h1, h5]; rfl)) (h6 i u hu)⟩
def ints (xs : List Int) : List Value := xs.map (.int .i64)
def rowC (vlan : Int) (v6 : Bool) (b : List Int) (root : Int) (sv : Value) : List Value := .int .i64 vlan :: (adrC v6 b ++ [.int .i64 root, sv])
def TRow.c (r : TRow) (sv : Value) : List Value := rowC r.vlan r.v6 r.b r.root sv
theorem rowC_len (vlan : Int) (v6 : Bool) (b : List Int) (root : Int) (sv : Value) (hb : b.length = 16) : (rowC vlan v6 b root sv).length = 20 := by simp [rowC, adrC, hb]
theorem rowC_one (vlan : Int) (v6 : Bool) (b : List Int) (root : Int) (sv : Value) (h : sv.oneCell' = true) : ∀ u ∈ rowC vlan v6 b root sv, u.oneCell' = true := by
  intro u hu
  unfold rowC adrC at hu
  simp at hu
  rcases hu with rfl | rfl | ⟨x, _, rfl⟩ | rfl | rfl
  · rfl
  · rfl
  · rfl
  · rfl
  · exact h
theorem rowC_19 (vlan : Int) (v6 : Bool) (b : List Int) (root : Int) (sv : Value) (hb : b.length = 16) : (rowC vlan v6 b root sv)[19]? = some sv := by
  unfold rowC adrC
  simp [hb]
theorem rowC_18 (vlan : Int) (v6 : Bool) (b : List Int) (root : Int) (sv : Value) (hb : b.length = 16) : (rowC vlan v6 b root sv)[18]? = some (.int .i64 root) := by
  unfold rowC adrC
  simp [hb]
theorem rowC_set (vlan : Int) (v6 : Bool) (b : List Int) (root : Int) (sv sv' : Value) (hb : b.length = 16) : (rowC vlan v6 b root sv).set 19 sv' = rowC vlan v6 b root sv' := by
  unfold rowC adrC
  simp [List.set_append, hb]
theorem rowC_adr (vlan : Int) (v6 v6' : Bool) (b b' : List Int) (root : Int) (sv : Value) (hb : b.length = 16) (hb' : b'.length = 16) : splice (rowC vlan v6 b root sv) 1 (adrC v6' b') = rowC vlan v6' b' root sv := by
  unfold splice rowC adrC
  simp [hb, hb']
theorem rowC_adrs (vlan : Int) (v6 : Bool) (b : List Int) (root : Int) (sv : Value) (hb : b.length = 16) : ((rowC vlan v6 b root sv).drop 1).take 17 = adrC v6 b := by
  unfold rowC adrC
  simp [hb]
theorem rowSz : (Tryz.prog.info? 28).map (·.size) = some 20 := by kernel_rfl
theorem sliceSz : (Tryz.prog.info? 26).map (·.size) = some 1 := by kernel_rfl
theorem Tryz.elI : Elem Tryz.prog 26 3 (.int .i64 0) 1 8 := .mk' Tryz.underlying26 (by kernel_rfl) rfl
theorem Tryz.elRow : Elem Tryz.prog 36 28 (.agg (rowC 0 false (List.replicate 16 0) 0 (.slice none 0 0)).toArray) 20 64 := .mk' Tryz.underlying36 (by kernel_rfl) rfl
end Go.Proofs.YtegjamjognpdkaaGreat
