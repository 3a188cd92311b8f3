/- The reference of addresses: Cmp, Read. -/
import Derived.Test.YtegjamjognpdkaaRefA
import Derived.Test.YtegjamjognpdkaaReg
namespace Go.Proofs.Ytegjamjognpdkaa
open Go.RowKit
set_option linter.unusedVariables false
set_option linter.unusedSimpArgs false
theorem cmpL_at : ∀ (l m : List Int) (j : Nat), l.length = m.length → (∀ t, t < j → l.getD t 0 = m.getD t 0) → j ≤ l.length → cmpL l m = (if j < l.length then (if l.getD j 0 < m.getD j 0 then -1 else if m.getD j 0 < l.getD j 0 then 1 else cmpL (l.drop (j + 1)) (m.drop (j + 1))) else 0)
  | [], [], j, _, _, h => by
    have : j = 0 := by simpa using h
    subst this
    rfl
  | [], _ :: _, _, h, _, _ => by simp at h
  | _ :: _, [], _, h, _, _ => by simp at h
  | a :: l, c :: m, 0, h, _, _ => by simp [cmpL]
  | a :: l, c :: m, j + 1, h, he, hj => by
    have e0 : a = c := by simpa using he 0 (by omega)
    subst e0
    have ih := cmpL_at l m j (by simpa using h) (fun t ht => by simpa using he (t + 1) (by omega)) (by simpa using hj)
    simp only [cmpL, Int.lt_irrefl, if_false, ih, List.length_cons, Nat.add_lt_add_iff_right, List.getD_cons_succ, List.drop_succ_cons]
def cutA (v : Bool) (b : List Int) : List Int := cond v b (b.take 4)
def wideA (v : Bool) : Nat := cond v 16 4
theorem cutA_len (v : Bool) (b : List Int) (h : b.length = 16) : (cutA v b).length = wideA v := by cases v <;> simp [cutA, wideA, h]
theorem cutA_get (v : Bool) (b : List Int) (h : b.length = 16) (j : Nat) (hj : j < wideA v) : (cutA v b).getD j 0 = b.getD j 0 := by
  cases v with
  | true => rfl
  | false =>
    simp only [wideA, cond_false] at hj
    simp only [cutA, cond_false]
    rw [List.getD_eq_getElem?_getD, List.getD_eq_getElem?_getD, List.getElem?_take, if_pos hj]
theorem cmpA_cut (v : Bool) (b b' : List Int) : cmpA v b v b' = cmpL (cutA v b) (cutA v b') := by unfold cmpA cutA; rw [if_pos rfl]; cases v <;> rfl
section
variable {v : Bool} {b b' : List Int} {j : Nat}
theorem cmpA_lt (hb : b.length = 16) (hb' : b'.length = 16) (he : ∀ t, t < j → b.getD t 0 = b'.getD t 0) (hj : j < wideA v) (h : b.getD j 0 < b'.getD j 0) : cmpA v b v b' = -1 := by
  rw [cmpA_cut, cmpL_at _ _ j (by rw [cutA_len v b hb, cutA_len v b' hb']) (fun t ht => by rw [cutA_get v b hb t (by omega), cutA_get v b' hb' t (by omega)]; exact he t ht) (by rw [cutA_len v b hb]; omega), cutA_len v b hb, if_pos hj, cutA_get v b hb j hj, cutA_get v b' hb' j hj, if_pos h]
theorem cmpA_gt (hb : b.length = 16) (hb' : b'.length = 16) (he : ∀ t, t < j → b.getD t 0 = b'.getD t 0) (hj : j < wideA v) (h : b'.getD j 0 < b.getD j 0) : cmpA v b v b' = 1 := by
  rw [cmpA_cut, cmpL_at _ _ j (by rw [cutA_len v b hb, cutA_len v b' hb']) (fun t ht => by rw [cutA_get v b hb t (by omega), cutA_get v b' hb' t (by omega)]; exact he t ht) (by rw [cutA_len v b hb]; omega), cutA_len v b hb, if_pos hj, cutA_get v b hb j hj, cutA_get v b' hb' j hj, if_neg (by omega), if_pos h]
theorem cmpA_eq (hb : b.length = 16) (hb' : b'.length = 16) (he : ∀ t, t < wideA v → b.getD t 0 = b'.getD t 0) : cmpA v b v b' = 0 := by
  rw [cmpA_cut, cmpL_at _ _ (wideA v) (by rw [cutA_len v b hb, cutA_len v b' hb']) (fun t ht => by rw [cutA_get v b hb t (by omega), cutA_get v b' hb' t (by omega)]; exact he t ht) (by rw [cutA_len v b hb]; exact Nat.le_refl _), cutA_len v b hb, if_neg (Nat.lt_irrefl _)]
end
set_option maxRecDepth 100000 in
set_option maxHeartbeats 1000000 in
theorem refACmp_any (v v' : Bool) (b b' : List Int) (hb : b.length = 16) (hb' : b'.length = 16) (w : World) : Calls Try.prog 36 #[.agg (adrC v b).toArray, .agg (adrC v' b').toArray] w fun e w' => e = .returned (.int .i64 (cmpA v b v' b')) ∧ Mod (fun _ => False) w w' := by
  have HA := Lib.hid (Blk.alloc (Blk.new w 36 (adrC v b)) (.cells (adrC v' b').toArray 36 (0, 0)))
  have HC := Lib.hid (Blk.new (w.alloc (.cells (adrC v b).toArray 36 (0, 0))) 36 (adrC v' b'))
  have HM : Hid (Mod (fun _ => False) w ((w.alloc (.cells (adrC v b).toArray 36 (0, 0))).alloc (.cells (adrC v' b').toArray 36 (0, 0)))) := Lib.hid (((Mod.refl _ _).alloc _).alloc _)
  rw [show (w.alloc (.cells (adrC v b).toArray 36 (0, 0))).heap.size = w.heap.size + 1 by simp] at HC
  have HB := Lib.hid hb
  have HB' := Lib.hid hb'
  clear hb hb'
  have k0 : (adrC v b)[0]? = some (.bool v) := rfl
  have k1 : (adrC v' b')[0]? = some (.bool v') := rfl
  by_cases hv : v = v'
  · subst hv
    go_enter Try.func36, Try.ntmps36
    cases v
    · go_wp2_with fail
      obtain ⟨W, hW⟩ : ∃ W, W = (w.alloc (.cells (adrC false b).toArray 36 (0, 0))).alloc (.cells (adrC false b').toArray 36 (0, 0)) := ⟨_, rfl⟩
      obtain ⟨p, hp⟩ : ∃ p, p = w.heap.size := ⟨_, rfl⟩
      obtain ⟨q, hq⟩ : ∃ q, q = w.heap.size + 1 := ⟨_, rfl⟩
      rw [← hW] at HA HC HM
      rw [← hp] at HA
      rw [← hq] at HC
      rw [← hW, ← hq, ← hp]
      clear hW hp hq k0 k1
      go_loopw [5] (fun i wr => ∃ j : Nat, j ≤ 4 ∧ i = .int .i64 (j : Int) ∧ Mod (fun _ => False) W wr ∧ ∀ t, t < j → b.getD t 0 = b'.getD t 0) (fun i _ => 4 - (intOf i).toNat)
      case atStart => exact ⟨0, by omega, rfl, Mod.refl _ _, fun t ht => by omega⟩
      case round =>
        obtain ⟨j, hj, rfl, hm, hall⟩ := hrel
        have HMM := Lib.hid hm
        have HALL := Lib.hid hall
        have c0 : wr.cell? ⟨p, 0, none⟩ = some (.bool false) := hm.cell (fun f => f) (HA.out.cell rfl)
        clear hm hall
        by_cases hlt : j < 4
        · have hlt16 : j < 16 := by omega
          obtain ⟨x, hx⟩ : ∃ x, x = b.getD j 0 := ⟨_, rfl⟩
          obtain ⟨y, hy⟩ : ∃ y, y = b'.getD j 0 := ⟨_, rfl⟩
          have hS : wr.drew.cell? ⟨p, 1 + j, none⟩ = some (.int .u8 x) ∧ wr.drew.cell? ⟨q, 1 + j, none⟩ = some (.int .u8 y) := by
            rw [hx, hy]
            exact ⟨HMM.out.cell (fun f => f) (HA.out.cell (adrC_get false b HB.out j hlt16)), HMM.out.cell (fun f => f) (HC.out.cell (adrC_get false b' HB'.out j hlt16))⟩
          have HX := Lib.hid hx
          have HY := Lib.hid hy
          clear hx hy
          rcases Int.lt_trichotomy x y with h | h | h
          · have HR : Hid (cmpA false b false b' = -1) := Lib.hid (cmpA_lt (j := j) HB.out HB'.out HALL.out hlt (by rw [← HX.out, ← HY.out]; exact h))
            go_wp2_with fail
            refine wp_region_plan [] [(0, 0), (1, 0), (2, 0), (3, 1), (4, 0), (5, 0), (6, 0), (7, 1), (8, 0)] (fun w' : World => w'.cell? ⟨p, 1 + j, none⟩ = some (.int .u8 x) ∧ w'.cell? ⟨q, 1 + j, none⟩ = some (.int .u8 y)) (by kernel_rfl) (by kernel_rfl) (fun d _ _ _ _ h => by cases d <;> exact h) ?_
            repeat (first | (refine plan_skip rfl rfl ?_; simp only [List.getElem_toArray, List.getElem_cons_succ, List.getElem_cons_zero, Act.put, List.setIfInBounds_toArray, List.set_cons_zero, List.set_cons_succ]) | (refine plan_pass2 rfl rfl ?_; simp only [List.getElem_toArray, List.getElem_cons_succ, List.getElem_cons_zero, Act.put, List.setIfInBounds_toArray, List.set_cons_zero, List.set_cons_succ]) | (refine plan_pass3 rfl rfl ?_; simp only [List.getElem_toArray, List.getElem_cons_succ, List.getElem_cons_zero, Act.put, List.setIfInBounds_toArray, List.set_cons_zero, List.set_cons_succ]) | (refine plan_take (v := ?_) rfl rfl ?_ ?_; rotate_left; (focus (intro w0; go_simp; try with_reducible rfl)); simp only [List.getElem_toArray, List.getElem_cons_succ, List.getElem_cons_zero, Act.put, List.setIfInBounds_toArray, List.set_cons_zero, List.set_cons_succ]) | (refine plan_held (v := ?_) rfl rfl hS ?_ ?_; rotate_left; (focus (intro w0 hSw; (try dsimp only at hSw); go_split_ands; go_simp; try with_reducible rfl)); simp only [List.getElem_toArray, List.getElem_cons_succ, List.getElem_cons_zero, Act.put, List.setIfInBounds_toArray, List.set_cons_zero, List.set_cons_succ])  | (refine plan_skip1 rfl rfl hS ?_; simp only [List.getElem_toArray, List.getElem_cons_succ, List.getElem_cons_zero, Act.put, List.setIfInBounds_toArray, List.set_cons_zero, List.set_cons_succ]))
            refine plan_nil ?_
            go_wp2
            go_ret
            exact ⟨by rw [HR.out]; rfl, (HM.out.trans HMM.out fun _ f => f.elim).drew⟩
          · subst h
            go_wp2_with fail
            refine wp_region_plan [] [(0, 0), (1, 0), (2, 0), (3, 1), (4, 0), (5, 0), (6, 0), (7, 1), (8, 0)] (fun w' : World => w'.cell? ⟨p, 1 + j, none⟩ = some (.int .u8 x) ∧ w'.cell? ⟨q, 1 + j, none⟩ = some (.int .u8 x)) (by kernel_rfl) (by kernel_rfl) (fun d _ _ _ _ h => by cases d <;> exact h) ?_
            repeat (first | (refine plan_skip rfl rfl ?_; simp only [List.getElem_toArray, List.getElem_cons_succ, List.getElem_cons_zero, Act.put, List.setIfInBounds_toArray, List.set_cons_zero, List.set_cons_succ]) | (refine plan_pass2 rfl rfl ?_; simp only [List.getElem_toArray, List.getElem_cons_succ, List.getElem_cons_zero, Act.put, List.setIfInBounds_toArray, List.set_cons_zero, List.set_cons_succ]) | (refine plan_pass3 rfl rfl ?_; simp only [List.getElem_toArray, List.getElem_cons_succ, List.getElem_cons_zero, Act.put, List.setIfInBounds_toArray, List.set_cons_zero, List.set_cons_succ]) | (refine plan_take (v := ?_) rfl rfl ?_ ?_; rotate_left; (focus (intro w0; go_simp; try with_reducible rfl)); simp only [List.getElem_toArray, List.getElem_cons_succ, List.getElem_cons_zero, Act.put, List.setIfInBounds_toArray, List.set_cons_zero, List.set_cons_succ]) | (refine plan_held (v := ?_) rfl rfl hS ?_ ?_; rotate_left; (focus (intro w0 hSw; (try dsimp only at hSw); go_split_ands; go_simp; try with_reducible rfl)); simp only [List.getElem_toArray, List.getElem_cons_succ, List.getElem_cons_zero, Act.put, List.setIfInBounds_toArray, List.set_cons_zero, List.set_cons_succ])  | (refine plan_skip1 rfl rfl hS ?_; simp only [List.getElem_toArray, List.getElem_cons_succ, List.getElem_cons_zero, Act.put, List.setIfInBounds_toArray, List.set_cons_zero, List.set_cons_succ]))
            refine plan_nil ?_
            go_wp2_with fail
            refine wp_region_plan [] [(0, 0), (1, 0), (2, 0), (3, 1), (4, 0), (5, 0), (6, 0), (7, 1), (8, 0)] (fun w' : World => w'.cell? ⟨p, 1 + j, none⟩ = some (.int .u8 x) ∧ w'.cell? ⟨q, 1 + j, none⟩ = some (.int .u8 x)) (by kernel_rfl) (by kernel_rfl) (fun d _ _ _ _ h => by cases d <;> exact h) ?_
            repeat (first | (refine plan_skip rfl rfl ?_; simp only [List.getElem_toArray, List.getElem_cons_succ, List.getElem_cons_zero, Act.put, List.setIfInBounds_toArray, List.set_cons_zero, List.set_cons_succ]) | (refine plan_pass2 rfl rfl ?_; simp only [List.getElem_toArray, List.getElem_cons_succ, List.getElem_cons_zero, Act.put, List.setIfInBounds_toArray, List.set_cons_zero, List.set_cons_succ]) | (refine plan_pass3 rfl rfl ?_; simp only [List.getElem_toArray, List.getElem_cons_succ, List.getElem_cons_zero, Act.put, List.setIfInBounds_toArray, List.set_cons_zero, List.set_cons_succ]) | (refine plan_take (v := ?_) rfl rfl ?_ ?_; rotate_left; (focus (intro w0; go_simp; try with_reducible rfl)); simp only [List.getElem_toArray, List.getElem_cons_succ, List.getElem_cons_zero, Act.put, List.setIfInBounds_toArray, List.set_cons_zero, List.set_cons_succ]) | (refine plan_held (v := ?_) rfl rfl hS ?_ ?_; rotate_left; (focus (intro w0 hSw; (try dsimp only at hSw); go_split_ands; go_simp; try with_reducible rfl)); simp only [List.getElem_toArray, List.getElem_cons_succ, List.getElem_cons_zero, Act.put, List.setIfInBounds_toArray, List.set_cons_zero, List.set_cons_succ])  | (refine plan_skip1 rfl rfl hS ?_; simp only [List.getElem_toArray, List.getElem_cons_succ, List.getElem_cons_zero, Act.put, List.setIfInBounds_toArray, List.set_cons_zero, List.set_cons_succ]))
            refine plan_nil ?_
            go_wp2
            go_roundw
            case rel => exact ⟨j + 1, by omega, by go_num, HMM.out.drew.drew, fun t ht => by rcases (show t < j ∨ t = j by omega) with h | rfl; exact HALL.out t h; exact HX.out.symm.trans HY.out⟩
            case measure => simp [intOf]; omega
          · have hnlt : ¬ x < y := by omega
            have HR : Hid (cmpA false b false b' = 1) := Lib.hid (cmpA_gt (j := j) HB.out HB'.out HALL.out hlt (by rw [← HX.out, ← HY.out]; exact h))
            go_wp2_with fail
            refine wp_region_plan [] [(0, 0), (1, 0), (2, 0), (3, 1), (4, 0), (5, 0), (6, 0), (7, 1), (8, 0)] (fun w' : World => w'.cell? ⟨p, 1 + j, none⟩ = some (.int .u8 x) ∧ w'.cell? ⟨q, 1 + j, none⟩ = some (.int .u8 y)) (by kernel_rfl) (by kernel_rfl) (fun d _ _ _ _ h => by cases d <;> exact h) ?_
            repeat (first | (refine plan_skip rfl rfl ?_; simp only [List.getElem_toArray, List.getElem_cons_succ, List.getElem_cons_zero, Act.put, List.setIfInBounds_toArray, List.set_cons_zero, List.set_cons_succ]) | (refine plan_pass2 rfl rfl ?_; simp only [List.getElem_toArray, List.getElem_cons_succ, List.getElem_cons_zero, Act.put, List.setIfInBounds_toArray, List.set_cons_zero, List.set_cons_succ]) | (refine plan_pass3 rfl rfl ?_; simp only [List.getElem_toArray, List.getElem_cons_succ, List.getElem_cons_zero, Act.put, List.setIfInBounds_toArray, List.set_cons_zero, List.set_cons_succ]) | (refine plan_take (v := ?_) rfl rfl ?_ ?_; rotate_left; (focus (intro w0; go_simp; try with_reducible rfl)); simp only [List.getElem_toArray, List.getElem_cons_succ, List.getElem_cons_zero, Act.put, List.setIfInBounds_toArray, List.set_cons_zero, List.set_cons_succ]) | (refine plan_held (v := ?_) rfl rfl hS ?_ ?_; rotate_left; (focus (intro w0 hSw; (try dsimp only at hSw); go_split_ands; go_simp; try with_reducible rfl)); simp only [List.getElem_toArray, List.getElem_cons_succ, List.getElem_cons_zero, Act.put, List.setIfInBounds_toArray, List.set_cons_zero, List.set_cons_succ])  | (refine plan_skip1 rfl rfl hS ?_; simp only [List.getElem_toArray, List.getElem_cons_succ, List.getElem_cons_zero, Act.put, List.setIfInBounds_toArray, List.set_cons_zero, List.set_cons_succ]))
            refine plan_nil ?_
            go_wp2_with fail
            refine wp_region_plan [] [(0, 0), (1, 0), (2, 0), (3, 1), (4, 0), (5, 0), (6, 0), (7, 1), (8, 0)] (fun w' : World => w'.cell? ⟨p, 1 + j, none⟩ = some (.int .u8 x) ∧ w'.cell? ⟨q, 1 + j, none⟩ = some (.int .u8 y)) (by kernel_rfl) (by kernel_rfl) (fun d _ _ _ _ h => by cases d <;> exact h) ?_
            repeat (first | (refine plan_skip rfl rfl ?_; simp only [List.getElem_toArray, List.getElem_cons_succ, List.getElem_cons_zero, Act.put, List.setIfInBounds_toArray, List.set_cons_zero, List.set_cons_succ]) | (refine plan_pass2 rfl rfl ?_; simp only [List.getElem_toArray, List.getElem_cons_succ, List.getElem_cons_zero, Act.put, List.setIfInBounds_toArray, List.set_cons_zero, List.set_cons_succ]) | (refine plan_pass3 rfl rfl ?_; simp only [List.getElem_toArray, List.getElem_cons_succ, List.getElem_cons_zero, Act.put, List.setIfInBounds_toArray, List.set_cons_zero, List.set_cons_succ]) | (refine plan_take (v := ?_) rfl rfl ?_ ?_; rotate_left; (focus (intro w0; go_simp; try with_reducible rfl)); simp only [List.getElem_toArray, List.getElem_cons_succ, List.getElem_cons_zero, Act.put, List.setIfInBounds_toArray, List.set_cons_zero, List.set_cons_succ]) | (refine plan_held (v := ?_) rfl rfl hS ?_ ?_; rotate_left; (focus (intro w0 hSw; (try dsimp only at hSw); go_split_ands; go_simp; try with_reducible rfl)); simp only [List.getElem_toArray, List.getElem_cons_succ, List.getElem_cons_zero, Act.put, List.setIfInBounds_toArray, List.set_cons_zero, List.set_cons_succ])  | (refine plan_skip1 rfl rfl hS ?_; simp only [List.getElem_toArray, List.getElem_cons_succ, List.getElem_cons_zero, Act.put, List.setIfInBounds_toArray, List.set_cons_zero, List.set_cons_succ]))
            refine plan_nil ?_
            go_wp2
            go_ret
            exact ⟨by rw [HR.out]; rfl, (HM.out.trans HMM.out fun _ f => f.elim).drew.drew⟩
        · obtain rfl : j = 4 := by omega
          have HR : Hid (cmpA false b false b' = 0) := Lib.hid (cmpA_eq HB.out HB'.out HALL.out)
          go_wp2
          go_ret
          exact ⟨by rw [HR.out]; rfl, HM.out.trans HMM.out fun _ f => f.elim⟩
    · go_wp2_with fail
      obtain ⟨W, hW⟩ : ∃ W, W = (w.alloc (.cells (adrC true b).toArray 36 (0, 0))).alloc (.cells (adrC true b').toArray 36 (0, 0)) := ⟨_, rfl⟩
      obtain ⟨p, hp⟩ : ∃ p, p = w.heap.size := ⟨_, rfl⟩
      obtain ⟨q, hq⟩ : ∃ q, q = w.heap.size + 1 := ⟨_, rfl⟩
      rw [← hW] at HA HC HM
      rw [← hp] at HA
      rw [← hq] at HC
      rw [← hW, ← hq, ← hp]
      clear hW hp hq k0 k1
      go_loopw [5] (fun i wr => ∃ j : Nat, j ≤ 16 ∧ i = .int .i64 (j : Int) ∧ Mod (fun _ => False) W wr ∧ ∀ t, t < j → b.getD t 0 = b'.getD t 0) (fun i _ => 16 - (intOf i).toNat)
      case atStart => exact ⟨0, by omega, rfl, Mod.refl _ _, fun t ht => by omega⟩
      case round =>
        obtain ⟨j, hj, rfl, hm, hall⟩ := hrel
        have HMM := Lib.hid hm
        have HALL := Lib.hid hall
        have c0 : wr.cell? ⟨p, 0, none⟩ = some (.bool true) := hm.cell (fun f => f) (HA.out.cell rfl)
        clear hm hall
        by_cases hlt : j < 16
        · have hlt16 : j < 16 := by omega
          obtain ⟨x, hx⟩ : ∃ x, x = b.getD j 0 := ⟨_, rfl⟩
          obtain ⟨y, hy⟩ : ∃ y, y = b'.getD j 0 := ⟨_, rfl⟩
          have hS : wr.drew.cell? ⟨p, 1 + j, none⟩ = some (.int .u8 x) ∧ wr.drew.cell? ⟨q, 1 + j, none⟩ = some (.int .u8 y) := by
            rw [hx, hy]
            exact ⟨HMM.out.cell (fun f => f) (HA.out.cell (adrC_get true b HB.out j hlt16)), HMM.out.cell (fun f => f) (HC.out.cell (adrC_get true b' HB'.out j hlt16))⟩
          have HX := Lib.hid hx
          have HY := Lib.hid hy
          clear hx hy
          rcases Int.lt_trichotomy x y with h | h | h
          · have HR : Hid (cmpA true b true b' = -1) := Lib.hid (cmpA_lt (j := j) HB.out HB'.out HALL.out hlt (by rw [← HX.out, ← HY.out]; exact h))
            go_wp2_with fail
            refine wp_region_plan [] [(0, 0), (1, 0), (2, 0), (3, 1), (4, 0), (5, 0), (6, 0), (7, 1), (8, 0)] (fun w' : World => w'.cell? ⟨p, 1 + j, none⟩ = some (.int .u8 x) ∧ w'.cell? ⟨q, 1 + j, none⟩ = some (.int .u8 y)) (by kernel_rfl) (by kernel_rfl) (fun d _ _ _ _ h => by cases d <;> exact h) ?_
            repeat (first | (refine plan_skip rfl rfl ?_; simp only [List.getElem_toArray, List.getElem_cons_succ, List.getElem_cons_zero, Act.put, List.setIfInBounds_toArray, List.set_cons_zero, List.set_cons_succ]) | (refine plan_pass2 rfl rfl ?_; simp only [List.getElem_toArray, List.getElem_cons_succ, List.getElem_cons_zero, Act.put, List.setIfInBounds_toArray, List.set_cons_zero, List.set_cons_succ]) | (refine plan_pass3 rfl rfl ?_; simp only [List.getElem_toArray, List.getElem_cons_succ, List.getElem_cons_zero, Act.put, List.setIfInBounds_toArray, List.set_cons_zero, List.set_cons_succ]) | (refine plan_take (v := ?_) rfl rfl ?_ ?_; rotate_left; (focus (intro w0; go_simp; try with_reducible rfl)); simp only [List.getElem_toArray, List.getElem_cons_succ, List.getElem_cons_zero, Act.put, List.setIfInBounds_toArray, List.set_cons_zero, List.set_cons_succ]) | (refine plan_held (v := ?_) rfl rfl hS ?_ ?_; rotate_left; (focus (intro w0 hSw; (try dsimp only at hSw); go_split_ands; go_simp; try with_reducible rfl)); simp only [List.getElem_toArray, List.getElem_cons_succ, List.getElem_cons_zero, Act.put, List.setIfInBounds_toArray, List.set_cons_zero, List.set_cons_succ])  | (refine plan_skip1 rfl rfl hS ?_; simp only [List.getElem_toArray, List.getElem_cons_succ, List.getElem_cons_zero, Act.put, List.setIfInBounds_toArray, List.set_cons_zero, List.set_cons_succ]))
            refine plan_nil ?_
            go_wp2
            go_ret
            exact ⟨by rw [HR.out]; rfl, (HM.out.trans HMM.out fun _ f => f.elim).drew⟩
          · subst h
            go_wp2_with fail
            refine wp_region_plan [] [(0, 0), (1, 0), (2, 0), (3, 1), (4, 0), (5, 0), (6, 0), (7, 1), (8, 0)] (fun w' : World => w'.cell? ⟨p, 1 + j, none⟩ = some (.int .u8 x) ∧ w'.cell? ⟨q, 1 + j, none⟩ = some (.int .u8 x)) (by kernel_rfl) (by kernel_rfl) (fun d _ _ _ _ h => by cases d <;> exact h) ?_
            repeat (first | (refine plan_skip rfl rfl ?_; simp only [List.getElem_toArray, List.getElem_cons_succ, List.getElem_cons_zero, Act.put, List.setIfInBounds_toArray, List.set_cons_zero, List.set_cons_succ]) | (refine plan_pass2 rfl rfl ?_; simp only [List.getElem_toArray, List.getElem_cons_succ, List.getElem_cons_zero, Act.put, List.setIfInBounds_toArray, List.set_cons_zero, List.set_cons_succ]) | (refine plan_pass3 rfl rfl ?_; simp only [List.getElem_toArray, List.getElem_cons_succ, List.getElem_cons_zero, Act.put, List.setIfInBounds_toArray, List.set_cons_zero, List.set_cons_succ]) | (refine plan_take (v := ?_) rfl rfl ?_ ?_; rotate_left; (focus (intro w0; go_simp; try with_reducible rfl)); simp only [List.getElem_toArray, List.getElem_cons_succ, List.getElem_cons_zero, Act.put, List.setIfInBounds_toArray, List.set_cons_zero, List.set_cons_succ]) | (refine plan_held (v := ?_) rfl rfl hS ?_ ?_; rotate_left; (focus (intro w0 hSw; (try dsimp only at hSw); go_split_ands; go_simp; try with_reducible rfl)); simp only [List.getElem_toArray, List.getElem_cons_succ, List.getElem_cons_zero, Act.put, List.setIfInBounds_toArray, List.set_cons_zero, List.set_cons_succ])  | (refine plan_skip1 rfl rfl hS ?_; simp only [List.getElem_toArray, List.getElem_cons_succ, List.getElem_cons_zero, Act.put, List.setIfInBounds_toArray, List.set_cons_zero, List.set_cons_succ]))
            refine plan_nil ?_
            go_wp2_with fail
            refine wp_region_plan [] [(0, 0), (1, 0), (2, 0), (3, 1), (4, 0), (5, 0), (6, 0), (7, 1), (8, 0)] (fun w' : World => w'.cell? ⟨p, 1 + j, none⟩ = some (.int .u8 x) ∧ w'.cell? ⟨q, 1 + j, none⟩ = some (.int .u8 x)) (by kernel_rfl) (by kernel_rfl) (fun d _ _ _ _ h => by cases d <;> exact h) ?_
            repeat (first | (refine plan_skip rfl rfl ?_; simp only [List.getElem_toArray, List.getElem_cons_succ, List.getElem_cons_zero, Act.put, List.setIfInBounds_toArray, List.set_cons_zero, List.set_cons_succ]) | (refine plan_pass2 rfl rfl ?_; simp only [List.getElem_toArray, List.getElem_cons_succ, List.getElem_cons_zero, Act.put, List.setIfInBounds_toArray, List.set_cons_zero, List.set_cons_succ]) | (refine plan_pass3 rfl rfl ?_; simp only [List.getElem_toArray, List.getElem_cons_succ, List.getElem_cons_zero, Act.put, List.setIfInBounds_toArray, List.set_cons_zero, List.set_cons_succ]) | (refine plan_take (v := ?_) rfl rfl ?_ ?_; rotate_left; (focus (intro w0; go_simp; try with_reducible rfl)); simp only [List.getElem_toArray, List.getElem_cons_succ, List.getElem_cons_zero, Act.put, List.setIfInBounds_toArray, List.set_cons_zero, List.set_cons_succ]) | (refine plan_held (v := ?_) rfl rfl hS ?_ ?_; rotate_left; (focus (intro w0 hSw; (try dsimp only at hSw); go_split_ands; go_simp; try with_reducible rfl)); simp only [List.getElem_toArray, List.getElem_cons_succ, List.getElem_cons_zero, Act.put, List.setIfInBounds_toArray, List.set_cons_zero, List.set_cons_succ])  | (refine plan_skip1 rfl rfl hS ?_; simp only [List.getElem_toArray, List.getElem_cons_succ, List.getElem_cons_zero, Act.put, List.setIfInBounds_toArray, List.set_cons_zero, List.set_cons_succ]))
            refine plan_nil ?_
            go_wp2
            go_roundw
            case rel => exact ⟨j + 1, by omega, by go_num, HMM.out.drew.drew, fun t ht => by rcases (show t < j ∨ t = j by omega) with h | rfl; exact HALL.out t h; exact HX.out.symm.trans HY.out⟩
            case measure => simp [intOf]; omega
          · have hnlt : ¬ x < y := by omega
            have HR : Hid (cmpA true b true b' = 1) := Lib.hid (cmpA_gt (j := j) HB.out HB'.out HALL.out hlt (by rw [← HX.out, ← HY.out]; exact h))
            go_wp2_with fail
            refine wp_region_plan [] [(0, 0), (1, 0), (2, 0), (3, 1), (4, 0), (5, 0), (6, 0), (7, 1), (8, 0)] (fun w' : World => w'.cell? ⟨p, 1 + j, none⟩ = some (.int .u8 x) ∧ w'.cell? ⟨q, 1 + j, none⟩ = some (.int .u8 y)) (by kernel_rfl) (by kernel_rfl) (fun d _ _ _ _ h => by cases d <;> exact h) ?_
            repeat (first | (refine plan_skip rfl rfl ?_; simp only [List.getElem_toArray, List.getElem_cons_succ, List.getElem_cons_zero, Act.put, List.setIfInBounds_toArray, List.set_cons_zero, List.set_cons_succ]) | (refine plan_pass2 rfl rfl ?_; simp only [List.getElem_toArray, List.getElem_cons_succ, List.getElem_cons_zero, Act.put, List.setIfInBounds_toArray, List.set_cons_zero, List.set_cons_succ]) | (refine plan_pass3 rfl rfl ?_; simp only [List.getElem_toArray, List.getElem_cons_succ, List.getElem_cons_zero, Act.put, List.setIfInBounds_toArray, List.set_cons_zero, List.set_cons_succ]) | (refine plan_take (v := ?_) rfl rfl ?_ ?_; rotate_left; (focus (intro w0; go_simp; try with_reducible rfl)); simp only [List.getElem_toArray, List.getElem_cons_succ, List.getElem_cons_zero, Act.put, List.setIfInBounds_toArray, List.set_cons_zero, List.set_cons_succ]) | (refine plan_held (v := ?_) rfl rfl hS ?_ ?_; rotate_left; (focus (intro w0 hSw; (try dsimp only at hSw); go_split_ands; go_simp; try with_reducible rfl)); simp only [List.getElem_toArray, List.getElem_cons_succ, List.getElem_cons_zero, Act.put, List.setIfInBounds_toArray, List.set_cons_zero, List.set_cons_succ])  | (refine plan_skip1 rfl rfl hS ?_; simp only [List.getElem_toArray, List.getElem_cons_succ, List.getElem_cons_zero, Act.put, List.setIfInBounds_toArray, List.set_cons_zero, List.set_cons_succ]))
            refine plan_nil ?_
            go_wp2_with fail
            refine wp_region_plan [] [(0, 0), (1, 0), (2, 0), (3, 1), (4, 0), (5, 0), (6, 0), (7, 1), (8, 0)] (fun w' : World => w'.cell? ⟨p, 1 + j, none⟩ = some (.int .u8 x) ∧ w'.cell? ⟨q, 1 + j, none⟩ = some (.int .u8 y)) (by kernel_rfl) (by kernel_rfl) (fun d _ _ _ _ h => by cases d <;> exact h) ?_
            repeat (first | (refine plan_skip rfl rfl ?_; simp only [List.getElem_toArray, List.getElem_cons_succ, List.getElem_cons_zero, Act.put, List.setIfInBounds_toArray, List.set_cons_zero, List.set_cons_succ]) | (refine plan_pass2 rfl rfl ?_; simp only [List.getElem_toArray, List.getElem_cons_succ, List.getElem_cons_zero, Act.put, List.setIfInBounds_toArray, List.set_cons_zero, List.set_cons_succ]) | (refine plan_pass3 rfl rfl ?_; simp only [List.getElem_toArray, List.getElem_cons_succ, List.getElem_cons_zero, Act.put, List.setIfInBounds_toArray, List.set_cons_zero, List.set_cons_succ]) | (refine plan_take (v := ?_) rfl rfl ?_ ?_; rotate_left; (focus (intro w0; go_simp; try with_reducible rfl)); simp only [List.getElem_toArray, List.getElem_cons_succ, List.getElem_cons_zero, Act.put, List.setIfInBounds_toArray, List.set_cons_zero, List.set_cons_succ]) | (refine plan_held (v := ?_) rfl rfl hS ?_ ?_; rotate_left; (focus (intro w0 hSw; (try dsimp only at hSw); go_split_ands; go_simp; try with_reducible rfl)); simp only [List.getElem_toArray, List.getElem_cons_succ, List.getElem_cons_zero, Act.put, List.setIfInBounds_toArray, List.set_cons_zero, List.set_cons_succ])  | (refine plan_skip1 rfl rfl hS ?_; simp only [List.getElem_toArray, List.getElem_cons_succ, List.getElem_cons_zero, Act.put, List.setIfInBounds_toArray, List.set_cons_zero, List.set_cons_succ]))
            refine plan_nil ?_
            go_wp2
            go_ret
            exact ⟨by rw [HR.out]; rfl, (HM.out.trans HMM.out fun _ f => f.elim).drew.drew⟩
        · obtain rfl : j = 16 := by omega
          have HR : Hid (cmpA true b true b' = 0) := Lib.hid (cmpA_eq HB.out HB'.out HALL.out)
          go_wp2
          go_ret
          exact ⟨by rw [HR.out]; rfl, HM.out.trans HMM.out fun _ f => f.elim⟩
  · have HX : Hid (cmpA v b v' b' = cond v' (-1) 1) := Lib.hid (by unfold cmpA; rw [if_neg hv])
    go_enter Try.func36, Try.ntmps36
    cases v <;> cases v' <;> first | exact absurd rfl hv | skip
    · go_wp2
      go_returns
      exact ⟨by rw [HX.out]; rfl, HM.out⟩
    · go_wp2
      go_returns
      exact ⟨by rw [HX.out]; rfl, HM.out⟩
end Go.Proofs.Ytegjamjognpdkaa
