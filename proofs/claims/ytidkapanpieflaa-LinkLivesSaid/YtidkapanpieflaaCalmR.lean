/- LinkCalm: a whole round, plain; what lies in memory. -/
import Derived.Test.YtidkapanpieflaaCalmQ
import Derived.Test.YtidkapanpieflaaOwn
namespace Go.Proofs.Ytidkapanpieflaa
open Go.RowKit
set_option linter.unusedVariables false
set_option linter.unusedSimpArgs false
def CS.acted (S : CS) (k : Int) : CS := if k = 0 then S.push else if k = 7 then S.crash else if k = 8 then S.drop else S
def upTo (S : CS) (k : Int) (n : Nat) : Nat := if k = 0 ∧ S.E.out.full = true then n + 1 else n
def CS.whole (S : CS) (k : Int) : CS := ((S.acted k).mid k).fin k
/-- before round i: m0 rounds of steps, then calm ones -/
def InvC (e0 : Int) (m0 i : Nat) (S : CS) (n c : Nat) : Prop := (i ≤ m0 ∧ Phase e0 S n c ∧ n ≤ i) ∨ (m0 < i ∧ PhaseM e0 S n c (20 - (i - m0)))
theorem InvC.phase {e0 : Int} {m0 i : Nat} {S : CS} {n c : Nat} (h : InvC e0 m0 i S n c) : Phase e0 S n c := by
  rcases h with ⟨_, h, _⟩ | ⟨_, h⟩
  · exact h
  · exact h.phase
theorem acted_phase {e0 : Int} {S : CS} {n c : Nat} (h : Phase e0 S n c) (hn : n < 900) (k : Int) : ∃ n' c', Phase e0 (S.acted k) n' c' ∧ c ≤ c' ∧ c' ≤ c + 1 ∧ (c' = c → n' = upTo S k n) ∧ (c' ≠ c → n' = 0) := by
  unfold CS.acted upTo
  by_cases h0 : k = 0
  · rw [if_pos h0]
    refine ⟨_, c, h.push hn, Nat.le_refl _, by omega, fun _ => ?_, fun h => absurd rfl h⟩
    by_cases hf : S.E.out.full = true
    · rw [if_pos hf, if_pos ⟨h0, hf⟩]
    · rw [if_neg hf, if_neg fun h => hf h.2]
  · rw [if_neg h0, if_neg (show ¬ (k = 0 ∧ S.E.out.full = true) from fun h => h0 h.1)]
    by_cases h7 : k = 7
    · rw [if_pos h7]
      exact ⟨0, c + 1, h.crash, by omega, Nat.le_refl _, fun h => by omega, fun _ => rfl⟩
    · rw [if_neg h7]
      by_cases h8 : k = 8
      · rw [if_pos h8]
        exact ⟨n, c, h.drop, Nat.le_refl _, by omega, fun _ => rfl, fun h => absurd rfl h⟩
      · rw [if_neg h8]
        exact ⟨n, c, h, Nat.le_refl _, by omega, fun _ => rfl, fun h => absurd rfl h⟩
theorem upTo_le (S : CS) (k : Int) (n : Nat) : upTo S k n ≤ n + 1 := by unfold upTo; split <;> omega
/-- one round -/
theorem round_law {e0 : Int} {m0 i : Nat} {S : CS} {n c : Nat} (h : InvC e0 m0 i S n c) (hm : m0 ≤ 30) (hi : i < m0 + 20) (hc : c ≤ 1000) {k : Int} (hk : m0 ≤ i → k = 2) :
    ∃ n' c', InvC e0 m0 (i + 1) (S.whole k) n' c' ∧ c ≤ c' ∧ c' ≤ c + 2 ∧ (c' = c → n' = upTo S k n) ∧ (c' ≠ c → n' = 0) := by
  have calm : ∀ left, PhaseM e0 S n c left → k = 2 → ∃ n' c', PhaseM e0 (S.whole k) n' c' (left - 1) ∧ c ≤ c' ∧ c' ≤ c + 2 ∧ (c' = c → n' = upTo S k n) ∧ (c' ≠ c → n' = 0) := fun left hp hk2 => by
    subst hk2
    obtain ⟨n', c', h1, h2, h3, h4, h5⟩ := calm_step (by omega) hp
    refine ⟨n', c', h1, h2, by omega, fun h => ?_, h5⟩
    rw [h4 h]
    rfl
  rcases h with ⟨h1, h2, h3⟩ | ⟨h1, h2⟩
  · by_cases hlt : i < m0
    · obtain ⟨n1, c1, a1, a2, a3, a4, a5⟩ := acted_phase h2 (by omega) k
      obtain ⟨n2, c2, b1, b2, b3, b4, b5, b6⟩ := a1.mid (by omega) k
      have hf := b1.fin k b2
      have hu := upTo_le S k n
      refine ⟨n2, c2, .inl ⟨by omega, hf, ?_⟩, by omega, by omega, fun h => ?_, fun h => ?_⟩
      · by_cases e2 : c2 = c1
        · rw [b5 e2]
          by_cases e1 : c1 = c
          · rw [a4 e1]; omega
          · rw [a5 e1]; omega
        · rw [b6 e2]; omega
      · have e1 : c1 = c := by omega
        have e2 : c2 = c1 := by omega
        rw [b5 e2, a4 e1]
      · by_cases e2 : c2 = c1
        · rw [b5 e2, a5 (by omega)]
        · exact b6 e2
    · obtain ⟨n', c', q1, q2⟩ := calm 20 (h2.measure (by omega)) (hk (by omega))
      exact ⟨n', c', .inr ⟨by omega, by rw [show 20 - (i + 1 - m0) = 20 - 1 by omega]; exact q1⟩, q2⟩
  · obtain ⟨n', c', q1, q2⟩ := calm _ h2 (hk (by omega))
    exact ⟨n', c', .inr ⟨by omega, by rw [show 20 - (i + 1 - m0) = 20 - (i - m0) - 1 by omega]; exact q1⟩, q2⟩
theorem round_end {e0 : Int} {m0 : Nat} {S : CS} {n c : Nat} (h : InvC e0 m0 (m0 + 20) S n c) : ∃ H, S.l = [H] ∧ hfind Life.node S.l 1 = some H ∧ H.epoch = S.E.epoch ∧ S.heard = n ∧ S.E.out.bodies = [] := by
  rcases h with ⟨h1, _, _⟩ | ⟨_, h⟩
  · omega
  · rw [show 20 - (m0 + 20 - m0) = 0 by omega] at h
    exact calm_end h
theorem InvC.epoch {e0 : Int} {m0 i j : Nat} {S T : CS} {n n' c c' : Nat} (h : InvC e0 m0 i S n c) (h' : InvC e0 m0 j T n' c') (hc : c ≤ 1000) (hc' : c' ≤ 1000) : (T.E.epoch = S.E.epoch ↔ c' = c) := by
  rw [h.phase.id.ep, h'.phase.id.ep]
  exact ⟨fun e => epc_inj e0 (by omega) (by omega) e, fun e => by rw [e]⟩
structure CalmM (w wr : World) (p q : Nat) (c : Nat → Nat) (S : CS) : Prop where
  col : Col w wr c
  e : EndAt wr p (fun k => c k = 1) S.E
  h : HubAt wr (fun k => c k = 2) q S.l S.G
section
variable {w wr w' : World} {p q : Nat} {c : Nat → Nat} {S S' : CS}
theorem CalmM.still (h : CalmM w wr p q c S) (hm : Mod (fun _ => False) wr w') (i : Nat) : CalmM w w' p q (paint c wr w' i) S :=
  ⟨h.col.still hm i, (h.e.keep hm fun _ _ f => f).mono (paint_away h.col (by decide) i), (h.h.keep hm fun _ _ f => f).mono (paint_away h.col (by decide) i)⟩
theorem CalmM.eM (h : CalmM w wr p q c S) {E' : Life} (he : EndAt w' p (fun k => c k = 1 ∨ wr.heap.size ≤ k) E') (hm : Mod (fun k => c k = 1) wr w') : CalmM w w' p q (paint c wr w' 1) { S with E := E' } :=
  ⟨h.col.step hm (by decide) 1, he.mono (paint_mine h.col (by decide)), (h.h.keep hm (mod_away (by decide))).mono (paint_away h.col (by decide) 1)⟩
theorem CalmM.hM (h : CalmM w wr p q c S) {l' : List Life} {G' : Int → Option Int} (hx : HubAt w' (fun k => c k = 2 ∨ wr.heap.size ≤ k) q l' G') (hm : Mod (fun k => c k = 2) wr w') : CalmM w w' p q (paint c wr w' 2) { S with l := l', G := G' } :=
  ⟨h.col.step hm (by decide) 2, (h.e.keep hm (mod_away (by decide))).mono (paint_away h.col (by decide) 2), hx.mono (paint_mine h.col (by decide))⟩
theorem CalmM.to (h : CalmM w wr p q c S) (h1 : S.E = S'.E) (h2 : S.l = S'.l) (h3 : S.G = S'.G) : CalmM w wr p q c S' := ⟨h.col, h1 ▸ h.e, h2 ▸ h3 ▸ h.h⟩
theorem CalmM.drew (h : CalmM w wr p q c S) : CalmM w wr.drew p q c S := ⟨h.col.drew, h.e.drew, h.h.keep (Mod.refl (fun _ => False) _).drew fun _ _ f => f⟩
/-- a block of another colour is kept -/
theorem Blk.other {g : Nat} {t : TypeId} {cs : List Value} {i j : Nat} (h : Blk wr g t cs) (hg : c g = i) (hm : Mod (fun k => c k = j) wr w') (hij : i ≠ j) : Blk w' g t cs := h.keep hm (fun e => hij (hg.symm.trans e))
end
/-- the steps that the caller hands in -/
def StepRow (w : World) (v : Value) (n : Nat) (l : Nat → Int × Int) : Prop :=
  ∃ ad cap, v = .slice ad n cap ∧ n ≤ cap ∧ cap ≤ maxLen ∧ (0 < n → ∃ g o, ad = some ⟨g, o, none⟩ ∧ g < w.heap.size ∧ ∀ i, i < n → w.cell? ⟨g, o + i * 2, none⟩ = some (.int .i64 (l i).1) ∧ w.cell? ⟨g, o + i * 2 + 1, none⟩ = some (.int .i64 (l i).2))
end Go.Proofs.Ytidkapanpieflaa
