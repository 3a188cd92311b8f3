/- LinkEnds: what lies in memory. -/
import Derived.Test.YtidkapanpieflaaGreatRLife2
import Derived.Test.YtidkapanpieflaaGreatLife4
import Derived.Deep.Slices
import Derived.ProofKit
namespace Go.Proofs.YtidkapanpieflaaGreat
open Go.RowKit Go.ChangeShapes Go.WideShapes Go.ChangeAt
set_option linter.unusedVariables false
set_option linter.unusedSimpArgs false
/-- the reference's life, when its sender has changed -/
theorem RLifeAt.sM {w w' : World} {f : Nat → Prop} {p po pi : Nat} {fs fr g : Nat → Prop} {L : RLife} {s' : RefS} (he : 0 ≤ L.epoch ∧ L.epoch < 4294967296) (hp : f p ∧ p < w.heap.size) (hb : w.heap[p]? = some (.cells (L.cells po pi) 51 (0, 0))) (hr : RefRAt w pi fr L.r) (h6 : ∀ k, fs k → (f k ∧ k < w.heap.size) ∧ k ≠ p ∧ ¬ fr k) (h7 : ∀ k, fr k → (f k ∧ k < w.heap.size) ∧ k ≠ p)
    (hg : ∀ k, g k → fs k ∨ w.heap.size ≤ k) (hs : RefSAt w' po g s') (hm : Mod fs w w') : RLifeAt w' p (fun k => f k ∨ w.heap.size ≤ k) { L with s := s' } ∧ Mod f w w' := by
  refine ⟨RLifeAt.of he (.inl hp.1) (hm.keep hb fun h => (h6 p h).2.1 rfl) hs (hr.keep hm fun k h1 h2 => (h6 k h2).2.2 h1) (fun k hk _ => ?_) (fun k hk _ => ⟨.inl (h7 k hk).1.1, (h7 k hk).2⟩), hm.mono fun k hk => .inl (h6 k hk).1.1⟩
  rcases hg k hk with hk | hk
  · exact ⟨.inl (h6 k hk).1.1, (h6 k hk).2⟩
  · exact ⟨.inr hk, by omega, fun h => by have := (h7 k h).1.2; omega⟩
theorem RLifeAt.sub {w : World} {f : Nat → Prop} {p : Nat} {L : RLife} (h : RLifeAt w p f L) : ∃ po fs, w.cell? ⟨p, 2, none⟩ = some (.int .u32 L.epoch) ∧ w.cell? ⟨p, 3, none⟩ = some (.pointer (some ⟨po, 0, none⟩)) ∧ RefSAt w po fs L.s ∧ ¬ fs p ∧ (∀ k, fs k → f k) ∧
    ∀ (w' : World) (g : Nat → Prop) (s' : RefS), (∀ k, g k → fs k ∨ w.heap.size ≤ k) → RefSAt w' po g s' → Mod fs w w' → RLifeAt w' p (fun k => f k ∨ w.heap.size ≤ k) { L with s := s' } ∧ Mod f w w' := by
  obtain ⟨h1, h2, po, pi, fs, fr, h3, h4, h5, h6, h7⟩ := h
  exact ⟨po, fs, cellOf h3 2, cellOf h3 3, h4, fun h => (h6 p h).2.1 rfl, fun k hk => (h6 k hk).1.1, fun w' g s' hg hs hm => RLifeAt.sM h1 h2 h3 h5 h6 h7 hg hs hm⟩
theorem push_le (s : RefS) (b : ByteArray) : (s.push b).l.length ≤ s.l.length + 1 := by
  unfold RefS.push
  split
  · show (s.l ++ [b]).length ≤ _
    simp
  · omega
/-- two lists of messages that are the same -/
theorem SameMsg_any (a b : Value) (n : Nat) (xs : List MsgV) (w : World) (hn : xs.length = n) (ha : Reads w a n (MsgV.vals xs)) (hb : Reads w b n (MsgV.vals xs)) :
    Calls Tryz.prog 8 #[a, b] w fun e w' => e = .returned (.bool true) ∧ Mod (fun _ => False) w w' := by
  obtain ⟨aa, ac, rfl, han, hac, hag⟩ := ha
  obtain ⟨ba, bc, rfl, hbn, hbc, hbg⟩ := hb
  have HAG := Lib.hid hag
  have HBG := Lib.hid hbg
  have HN := Lib.hid hn
  unfold maxLen at hac hbc
  clear hag hbg hn
  go_enter Tryz.func8, Tryz.ntmps8
  go_wp2
  go_loopw [5] (fun i wr => ∃ j : Nat, j ≤ n ∧ i = .int .i64 j ∧ Mod (fun _ => False) w wr) (fun i _ => n - (intOf i).toNat)
  case atStart => exact ⟨0, Nat.zero_le _, rfl, Mod.refl _ _⟩
  case round =>
    obtain ⟨j, hj, rfl, hm⟩ := hrel
    have HM := Lib.hid hm
    clear hm
    by_cases hlt : j < n
    · obtain ⟨g, o, rfl, hcg⟩ := HAG.out (by omega)
      obtain ⟨g', o', rfl, hcg'⟩ := HBG.out (by omega)
      obtain ⟨x, hx⟩ : ∃ x, x = xs[j]'(by rw [HN.out]; exact hlt) := ⟨_, rfl⟩
      have hki : (j : Int) < (n : Int) := by omega
      have hget : ∀ i u, x.cells[i]? = some u → (MsgV.vals xs)[j * 7 + i]? = some u := fun i u hu => by
        have hi : i < 7 := (Array.getElem?_eq_some_iff.1 hu).1
        have hjl : j < xs.length := by rw [HN.out]; exact hlt
        have e : xs = xs.take j ++ x :: xs.drop (j + 1) := by rw [hx, ← List.drop_eq_getElem_cons, List.take_append_drop]
        rw [e, MsgV.vals_app, List.getElem?_append_right (by rw [MsgV.vals_len, List.length_take]; omega), MsgV.vals_len, List.length_take]
        have : (MsgV.vals (x :: xs.drop (j + 1))) = x.cells.toList ++ MsgV.vals (xs.drop (j + 1)) := by simp [MsgV.vals]
        rw [this, List.getElem?_append_left (by simp [MsgV.cells]; omega)]
        rw [show j * 7 + i - min j xs.length * 7 = i by omega]
        simpa using hu
      have hS : wr.drew.cell? ⟨g, o + j * 7, none⟩ = some (.int .i64 x.node) ∧ wr.drew.cell? ⟨g, o + j * 7 + 1, none⟩ = some (.bool x.up) ∧ wr.drew.cell? ⟨g, o + j * 7 + 2, none⟩ = some (.int .u32 x.epoch) ∧ wr.drew.cell? ⟨g, o + j * 7 + 3, none⟩ = some (.int .i64 x.kind) ∧ wr.drew.cell? ⟨g, o + j * 7 + 4, none⟩ = some (.int .u32 x.ack) ∧ wr.drew.cell? ⟨g, o + j * 7 + 5, none⟩ = some (.int .u32 x.seq) ∧ wr.drew.cell? ⟨g, o + j * 7 + 6, none⟩ = some (.string x.body) ∧ wr.drew.cell? ⟨g', o' + j * 7, none⟩ = some (.int .i64 x.node) ∧ wr.drew.cell? ⟨g', o' + j * 7 + 1, none⟩ = some (.bool x.up) ∧ wr.drew.cell? ⟨g', o' + j * 7 + 2, none⟩ = some (.int .u32 x.epoch) ∧ wr.drew.cell? ⟨g', o' + j * 7 + 3, none⟩ = some (.int .i64 x.kind) ∧ wr.drew.cell? ⟨g', o' + j * 7 + 4, none⟩ = some (.int .u32 x.ack) ∧ wr.drew.cell? ⟨g', o' + j * 7 + 5, none⟩ = some (.int .u32 x.seq) ∧ wr.drew.cell? ⟨g', o' + j * 7 + 6, none⟩ = some (.string x.body) := ⟨HM.out.cell (fun f => f) (by have := hcg (j * 7 + 0) _ (hget 0 _ rfl); rwa [← Nat.add_assoc] at this), HM.out.cell (fun f => f) (by have := hcg (j * 7 + 1) _ (hget 1 _ rfl); rwa [← Nat.add_assoc] at this), HM.out.cell (fun f => f) (by have := hcg (j * 7 + 2) _ (hget 2 _ rfl); rwa [← Nat.add_assoc] at this), HM.out.cell (fun f => f) (by have := hcg (j * 7 + 3) _ (hget 3 _ rfl); rwa [← Nat.add_assoc] at this), HM.out.cell (fun f => f) (by have := hcg (j * 7 + 4) _ (hget 4 _ rfl); rwa [← Nat.add_assoc] at this), HM.out.cell (fun f => f) (by have := hcg (j * 7 + 5) _ (hget 5 _ rfl); rwa [← Nat.add_assoc] at this), HM.out.cell (fun f => f) (by have := hcg (j * 7 + 6) _ (hget 6 _ rfl); rwa [← Nat.add_assoc] at this), HM.out.cell (fun f => f) (by have := hcg' (j * 7 + 0) _ (hget 0 _ rfl); rwa [← Nat.add_assoc] at this), HM.out.cell (fun f => f) (by have := hcg' (j * 7 + 1) _ (hget 1 _ rfl); rwa [← Nat.add_assoc] at this), HM.out.cell (fun f => f) (by have := hcg' (j * 7 + 2) _ (hget 2 _ rfl); rwa [← Nat.add_assoc] at this), HM.out.cell (fun f => f) (by have := hcg' (j * 7 + 3) _ (hget 3 _ rfl); rwa [← Nat.add_assoc] at this), HM.out.cell (fun f => f) (by have := hcg' (j * 7 + 4) _ (hget 4 _ rfl); rwa [← Nat.add_assoc] at this), HM.out.cell (fun f => f) (by have := hcg' (j * 7 + 5) _ (hget 5 _ rfl); rwa [← Nat.add_assoc] at this), HM.out.cell (fun f => f) (by have := hcg' (j * 7 + 6) _ (hget 6 _ rfl); rwa [← Nat.add_assoc] at this)⟩
      clear hcg hcg' hget hx
      go_wp2_with fail
      refine wp_region_plan [] [(0, 0), (1, 0), (2, 0), (3, 1), (4, 0), (5, 0), (6, 0), (7, 1), (8, 0)] (fun w' : World => w'.cell? ⟨g, o + j * 7, none⟩ = some (.int .i64 x.node) ∧ w'.cell? ⟨g, o + j * 7 + 1, none⟩ = some (.bool x.up) ∧ w'.cell? ⟨g, o + j * 7 + 2, none⟩ = some (.int .u32 x.epoch) ∧ w'.cell? ⟨g, o + j * 7 + 3, none⟩ = some (.int .i64 x.kind) ∧ w'.cell? ⟨g, o + j * 7 + 4, none⟩ = some (.int .u32 x.ack) ∧ w'.cell? ⟨g, o + j * 7 + 5, none⟩ = some (.int .u32 x.seq) ∧ w'.cell? ⟨g, o + j * 7 + 6, none⟩ = some (.string x.body) ∧ w'.cell? ⟨g', o' + j * 7, none⟩ = some (.int .i64 x.node) ∧ w'.cell? ⟨g', o' + j * 7 + 1, none⟩ = some (.bool x.up) ∧ w'.cell? ⟨g', o' + j * 7 + 2, none⟩ = some (.int .u32 x.epoch) ∧ w'.cell? ⟨g', o' + j * 7 + 3, none⟩ = some (.int .i64 x.kind) ∧ w'.cell? ⟨g', o' + j * 7 + 4, none⟩ = some (.int .u32 x.ack) ∧ w'.cell? ⟨g', o' + j * 7 + 5, none⟩ = some (.int .u32 x.seq) ∧ w'.cell? ⟨g', o' + j * 7 + 6, none⟩ = some (.string x.body)) (by kernel_rfl) (by kernel_rfl) (fun d _ _ _ _ h => by cases d <;> exact h) ?_
      repeat (first | (refine plan_skip rfl rfl ?_; simp only [List.getElem_toArray, List.getElem_cons_succ, List.getElem_cons_zero, Act.put, List.setIfInBounds_toArray, List.set_cons_zero, List.set_cons_succ]) | (refine plan_pass2 rfl rfl ?_; simp only [List.getElem_toArray, List.getElem_cons_succ, List.getElem_cons_zero, Act.put, List.setIfInBounds_toArray, List.set_cons_zero, List.set_cons_succ]) | (refine plan_pass3 rfl rfl ?_; simp only [List.getElem_toArray, List.getElem_cons_succ, List.getElem_cons_zero, Act.put, List.setIfInBounds_toArray, List.set_cons_zero, List.set_cons_succ]) | (refine plan_take (v := ?_) rfl rfl ?_ ?_; rotate_left; (focus (intro w0; go_simp; try with_reducible rfl)); simp only [List.getElem_toArray, List.getElem_cons_succ, List.getElem_cons_zero, Act.put, List.setIfInBounds_toArray, List.set_cons_zero, List.set_cons_succ]) | (refine plan_held (v := ?_) rfl rfl hS ?_ ?_; rotate_left; (focus (intro w0 hSw; (try dsimp only at hSw); go_split_ands; go_simp; try with_reducible rfl)); simp only [List.getElem_toArray, List.getElem_cons_succ, List.getElem_cons_zero, Act.put, List.setIfInBounds_toArray, List.set_cons_zero, List.set_cons_succ])  | (refine plan_skip1 rfl rfl hS ?_; simp only [List.getElem_toArray, List.getElem_cons_succ, List.getElem_cons_zero, Act.put, List.setIfInBounds_toArray, List.set_cons_zero, List.set_cons_succ]))
      refine plan_nil ?_
      clear hS
      go_wp2
      go_roundw
      case rel => exact ⟨j + 1, by omega, by go_num, HM.out.drew⟩
      case measure => simp [intOf]; omega
    · have hki : ¬ (j : Int) < (n : Int) := by omega
      go_wp2
      go_returns
      exact ⟨rfl, HM.out⟩
end Go.Proofs.YtidkapanpieflaaGreat
