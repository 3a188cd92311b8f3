/- table.Good, table.Read: contracts. -/
import Derived.Test.YtegjamjognpdkaaRowH
namespace Go.Proofs.Ytegjamjognpdkaa
open Go.RowKit
set_option linter.unusedVariables false
set_option linter.unusedSimpArgs false
theorem Good_rows (v : Value) (rs : List TRow) (sv : Nat → Value) (w : World) (h : RowsAt w v rs sv) :
    Calls Try.prog 16 #[v] w fun e w' => e = .returned (.bool (goodT rs)) ∧ Mod (fun _ => False) w w' := by
  go_enter Try.func16, Try.ntmps16
  go_wp2_with fail
  refine (good_any v rs sv _ h).mono ?_; rintro e w1 ⟨rfl, hm⟩
  have HM := Lib.hid hm
  clear hm h
  go_wp2
  go_ret
  exact ⟨rfl, HM.out⟩
/-- what reading comes to -/
inductive ReadR (s : ByteArray) (x : PS) (w : World) : Value → Int → Prop where
  | short : x.p < s.size → ReadR s x w (.slice none 0 0) 3
  | bad : ¬ x.p < s.size → (x.ok && goodT x.rs) = false → ReadR s x w (.slice none 0 0) 2
  | good (v : Value) (sv : Nat → Value) : ¬ x.p < s.size → (x.ok && goodT x.rs) = true → RowsAt w v x.rs sv → ReadR s x w v 0
theorem stp_more {s : ByteArray} {j : Nat} (h : More s (st s j)) : (st s (j + 1)).p = nxtAt s (st s j).p ∧ (st s (j + 1)).rs = (st s j).rs ++ [rowOf s (st s j).p] ∧ (st s (j + 1)).ok = ((st s j).ok && decide (byt s (st s j).p ≤ 1)) := by
  rw [show st s (j + 1) = stp s (st s j) from rfl]
  unfold stp
  rw [if_pos h]
  exact ⟨rfl, rfl, rfl⟩
section
variable {s : ByteArray} {b0 p n j a a' : Nat} {w wr w2 w3 w4 : World} {v v' : Value} {is bad is1 : Bool} {cs : List Value}
/-- the round of Read's loop -/
theorem ReadJ.next (h : ReadJ s b0 b0 w wr v is n false j) (hb0 : b0 = w.heap.size) (ha : a = (st s j).p) (hlt : a < s.size) (hR : RowR s a wr.heap.size w2 cs is1 a' bad) (hrd : RdAt w2 b0 s a' bad) (hm2 : Mod (fun k => k = b0) wr w2) (hm3 : Mod (fun _ => False) w2 w3)
    (hrow : ∀ xs, Row w3 (fun k => b0 < k) 38 20 v n xs → Row w4 (fun k => b0 < k) 38 20 v' (n + 1) (xs ++ cs)) (hm4 : Mod (fun k => v.ownBlock = some k) w3 w4) (hs : s.size ≤ 1000) :
    (∃ j', ReadJ s b0 b0 w w4 v' (is && is1) (n + 1) bad j') ∧ n + 1 ≤ 101 := by
  obtain ⟨xs, hx⟩ := h.row
  have hsz : w.heap.size ≤ wr.heap.size := h.mod.size
  have hb : b0 < wr.heap.size := by
    obtain ⟨a0, hr0, _⟩ := h.rd
    exact lt_of_block hr0
  have own : ∀ k, v.ownBlock = some k → b0 < k := fun k hk => hx.2 k hk
  have hx3 : Row w3 (fun k => b0 < k) 38 20 v n xs := (hx.keep hm2 fun k hk e => by omega).keep hm3 fun _ _ f => f
  have hmod : Mod (fun _ => False) w w4 := ((h.mod.trans hm2 fun x hx => .inr (by omega)).trans hm3 fun _ f => f.elim).trans hm4 fun x hx => .inr (by have := own x hx; omega)
  obtain ⟨hg1, sv, hg2⟩ := h.good rfl
  have hn : n = (st s j).rs.length := by
    have e1 := hx.len
    have e2 := hg2.row.1.2
    have := hg2.row.form
    obtain ⟨_, _, e3, _⟩ := hx.form
    obtain ⟨_, _, e4, _⟩ := hg2.row.form
    rw [e3] at e4
    injection e4
  have hle := st_le s j
  have hn101 : n + 1 ≤ 101 := by omega
  have rd4 : RdAt w4 b0 s a' bad := (hrd.keep hm3 fun f => f).keep hm4 fun e => by have := own _ e; omega
  refine ⟨?_, hn101⟩
  cases bad with
  | true =>
    have hnf : ¬ More s (st s j) := fun hmo => by
      have := hR.iff.2 (ha ▸ hmo.2)
      cases this
    exact ⟨j, ⟨a', rd4, hR.le, fun e => (by cases e)⟩, hmod, ⟨_, hrow xs hx3⟩, hn101, h.more, fun e => (by cases e), fun _ => ⟨hnf, ha ▸ hlt⟩⟩
  | false =>
    have hmo : More s (st s j) := ⟨ha ▸ hlt, ha ▸ hR.iff.1 rfl⟩
    obtain ⟨e1, e2, e3⟩ := stp_more hmo
    obtain ⟨r1, r2, u, r3, r4⟩ := hR.row rfl
    refine ⟨j + 1, ⟨a', rd4, hR.le, fun _ => by rw [e1, r1, ha]⟩, hmod, ⟨_, hrow xs hx3⟩, hn101, fun m hm => ?_, fun _ => ⟨?_, ?_⟩, fun e => (by cases e)⟩
    · rcases (show m < j ∨ m = j by omega) with hm | rfl
      · exact h.more m hm
      · exact hmo
    · rw [e3, hg1, r2, ha]
    · have g3 : RowsOwn w3 (fun k => b0 < k) v (st s j).rs sv := (hg2.keep hm2 fun k hk e => by omega).keep hm3 fun _ _ f => f
      have r5 : Row w3 (fun k => b0 < k) 3 1 u (rowOf s a).next.length (ints (rowOf s a).next) := by
        rw [rowOf_next]
        exact (r4.keep hm3 fun _ _ f => f).mono fun k hk => by omega
      have hrow' := hrow _ (hn ▸ g3.row)
      rw [r3, hn] at hrow'
      rw [e2, ← ha]
      exact ⟨_, g3.snoc r5 (rowOf_b s a) hrow' hm4 fun _ h => h⟩
end
end Go.Proofs.Ytegjamjognpdkaa
