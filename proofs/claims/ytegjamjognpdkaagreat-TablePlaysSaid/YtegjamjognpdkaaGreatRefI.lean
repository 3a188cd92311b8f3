/- The reference of rows: Good: contract. -/
import Derived.Test.YtegjamjognpdkaaGreatAdrW
import Derived.Test.YtegjamjognpdkaaGreatReg
import Derived.Test.YtegjamjognpdkaaGreatRowH
namespace Go.Proofs.YtegjamjognpdkaaGreat
open Go.RowKit
set_option linter.unusedVariables false
set_option linter.unusedSimpArgs false
theorem adrC_get (v : Bool) (b : List Int) (hb : b.length = 16) (j : Nat) (hj : j < 16) : (adrC v b)[1 + j]? = some (.int .u8 (b.getD j 0)) := by
  unfold adrC
  rw [show 1 + j = j + 1 by omega, List.getElem?_cons_succ, List.getElem?_map, List.getElem?_eq_getElem (by omega), List.getD_eq_getElem?_getD, List.getElem?_eq_getElem (by omega)]
  rfl
theorem drop_zero {b : List Int} (hb : b.length = 16) (k : Nat) (hk : k ≤ 16) (h : ∀ t, k ≤ t → t < 16 → b.getD t 0 = 0) : b.drop k = List.replicate (16 - k) 0 := by
  apply List.ext_getElem
  · simp [hb]
  · intro i h1 h2
    simp only [List.length_drop, hb, List.length_replicate] at h1 h2
    have := h (k + i) (by omega) (by omega)
    rw [List.getD_eq_getElem?_getD, List.getElem?_eq_getElem (by omega)] at this
    simpa using this
theorem drop_no {b : List Int} (hb : b.length = 16) (k t : Nat) (h1 : k ≤ t) (h2 : t < 16) (h : b.getD t 0 ≠ 0) : ¬ b.drop k = List.replicate (16 - k) 0 := fun e => by
  have := congrArg (fun l => l[t - k]?) e
  simp only [List.getElem?_drop] at this
  rw [show k + (t - k) = t by omega, List.getElem?_eq_getElem (by omega), List.getElem?_replicate, if_pos (by omega)] at this
  apply h
  rw [List.getD_eq_getElem?_getD, List.getElem?_eq_getElem (by omega)]
  simpa using this
set_option maxRecDepth 100000 in
theorem refAGood_any (v : Bool) (b : List Int) (hb : b.length = 16) (w : World) : Calls Tryz.prog 59 #[.agg (adrC v b).toArray] w fun e w' => e = .returned (.bool (adrGood v b)) ∧ Mod (fun _ => False) w w' := by
  have HA := Lib.hid (Blk.new w 25 (adrC v b))
  have HM : Hid (Mod (fun _ => False) w (w.alloc (.cells (adrC v b).toArray 25 (0, 0)))) := Lib.hid ((Mod.refl _ _).alloc _)
  have HB := Lib.hid hb
  clear hb
  go_enter Tryz.func59, Tryz.ntmps59
  go_wp2_with fail
  obtain ⟨W, hW⟩ : ∃ W, W = w.alloc (.cells (adrC v b).toArray 25 (0, 0)) := ⟨_, rfl⟩
  obtain ⟨p, hp⟩ : ∃ p, p = w.heap.size := ⟨_, rfl⟩
  rw [← hW] at HA HM ⊢
  rw [← hp] at HA ⊢
  clear hW hp
  have c0 : W.cell? ⟨p, 0, none⟩ = some (.bool v) := HA.out.cell rfl
  go_loop [3] (fun i => ∃ j : Nat, 4 ≤ j ∧ j ≤ 16 ∧ i = .int .i64 (j : Int) ∧ (v = false → ∀ t, 4 ≤ t → t < j → b.getD t 0 = 0)) (fun i => 16 - (intOf i).toNat)
  case atStart => exact ⟨4, by omega, by omega, rfl, fun _ t h1 h2 => by omega⟩
  case round =>
    obtain ⟨j, h4, h16, rfl, hall⟩ := hrel
    have HALL := Lib.hid hall
    clear hall
    by_cases hlt : j < 16
    · have cj : W.cell? ⟨p, 1 + j, none⟩ = some (.int .u8 (b.getD j 0)) := HA.out.cell (adrC_get v b HB.out j hlt)
      obtain ⟨x, hx⟩ : ∃ x, x = b.getD j 0 := ⟨_, rfl⟩
      rw [← hx] at cj
      cases v with
      | true =>
        go_wp2
        go_round
        case rel => exact ⟨j + 1, by omega, by omega, by go_num, fun e => (by cases e)⟩
        case measure => simp [intOf]; omega
      | false =>
        by_cases h0 : x = 0
        · have HX : Hid (b.getD j 0 = 0) := Lib.hid (by rw [← hx, h0])
          clear hx
          subst h0
          go_wp2
          go_round
          case rel => exact ⟨j + 1, by omega, by omega, by go_num, fun _ t h1 h2 => by rcases (show t < j ∨ t = j by omega) with h | rfl; exact HALL.out rfl t h1 h; exact HX.out⟩
          case measure => simp [intOf]; omega
        · have HX : Hid (adrGood false b = false) := Lib.hid (decide_eq_false (drop_no HB.out 4 j h4 hlt (by rw [← hx]; exact h0)))
          clear hx
          go_wp2
          go_ret
          exact ⟨by rw [HX.out]; rfl, HM.out⟩
    · obtain rfl : j = 16 := by omega
      have HX : Hid (adrGood v b = true) := Lib.hid (by
        cases v with
        | true => rfl
        | false => exact decide_eq_true (drop_zero HB.out 4 (by omega) (HALL.out rfl)))
      go_wp2
      go_ret
      exact ⟨by rw [HX.out]; rfl, HM.out⟩
set_option maxRecDepth 100000 in
theorem refAZero_any (v : Bool) (b : List Int) (hb : b.length = 16) (w : World) : Calls Tryz.prog 60 #[.agg (adrC v b).toArray] w fun e w' => e = .returned (.bool (adrZero b)) ∧ Mod (fun _ => False) w w' := by
  have HA := Lib.hid (Blk.new w 25 (adrC v b))
  have HM : Hid (Mod (fun _ => False) w (w.alloc (.cells (adrC v b).toArray 25 (0, 0)))) := Lib.hid ((Mod.refl _ _).alloc _)
  have HB := Lib.hid hb
  clear hb
  go_enter Tryz.func60, Tryz.ntmps60
  go_wp2_with fail
  obtain ⟨W, hW⟩ : ∃ W, W = w.alloc (.cells (adrC v b).toArray 25 (0, 0)) := ⟨_, rfl⟩
  obtain ⟨p, hp⟩ : ∃ p, p = w.heap.size := ⟨_, rfl⟩
  rw [← hW] at HA HM ⊢
  rw [← hp] at HA ⊢
  clear hW hp
  go_loop [3] (fun i => ∃ j : Nat, j ≤ 16 ∧ i = .int .i64 (j : Int) ∧ (∀ t, 0 ≤ t → t < j → b.getD t 0 = 0)) (fun i => 16 - (intOf i).toNat)
  case atStart => exact ⟨0, by omega, rfl, fun t h1 h2 => by omega⟩
  case round =>
    obtain ⟨j, h16, rfl, hall⟩ := hrel
    have HALL := Lib.hid hall
    clear hall
    by_cases hlt : j < 16
    · have cj : W.cell? ⟨p, 1 + j, none⟩ = some (.int .u8 (b.getD j 0)) := HA.out.cell (adrC_get v b HB.out j hlt)
      obtain ⟨x, hx⟩ : ∃ x, x = b.getD j 0 := ⟨_, rfl⟩
      rw [← hx] at cj
      by_cases h0 : x = 0
      · have HX : Hid (b.getD j 0 = 0) := Lib.hid (by rw [← hx, h0])
        clear hx
        subst h0
        go_wp2
        go_round
        case rel => exact ⟨j + 1, by omega, by go_num, fun t h1 h2 => by rcases (show t < j ∨ t = j by omega) with h | rfl; exact HALL.out t h1 h; exact HX.out⟩
        case measure => simp [intOf]; omega
      · have HX : Hid (adrZero b = false) := Lib.hid (decide_eq_false (drop_no HB.out 0 j (by omega) hlt (by rw [← hx]; exact h0)))
        clear hx
        go_wp2
        go_ret
        exact ⟨by rw [HX.out]; rfl, HM.out⟩
    · obtain rfl : j = 16 := by omega
      have HX : Hid (adrZero b = true) := Lib.hid (decide_eq_true (drop_zero HB.out 0 (by omega) HALL.out))
      go_wp2
      go_ret
      exact ⟨by rw [HX.out]; rfl, HM.out⟩
set_option maxRecDepth 100000 in
theorem refAGroup_any (v : Bool) (b : List Int) (hb : b.length = 16) (w : World) : Calls Tryz.prog 61 #[.agg (adrC v b).toArray] w fun e w' => e = .returned (.bool (adrGroup v b)) ∧ Mod (fun _ => False) w w' := by
  obtain ⟨x, y, z, u, r, rfl, hr⟩ := adr_four hb
  have hA := Blk.new w 25 (adrC v (x :: y :: z :: u :: r))
  have c0 := hA.cell (j := 0) rfl
  have c1 := hA.cell (j := 1) rfl
  have HM : Hid (Mod (fun _ => False) w (w.alloc (.cells (adrC v (x :: y :: z :: u :: r)).toArray 25 (0, 0)))) := Lib.hid ((Mod.refl _ _).alloc _)
  clear hA hb
  cases v with
  | true =>
    by_cases h : x = 255
    · have HX : Hid (adrGroup true (x :: y :: z :: u :: r) = true) := Lib.hid (decide_eq_true h)
      have hxb : (x == 255) = true := by simp [h]
      clear h
      go_enter Tryz.func61, Tryz.ntmps61
      go_wp2
      go_returns
      exact ⟨by rw [HX.out]; rfl, HM.out⟩
    · have HX : Hid (adrGroup true (x :: y :: z :: u :: r) = false) := Lib.hid (decide_eq_false h)
      have hxb : (x == 255) = false := by simp [h]
      clear h
      go_enter Tryz.func61, Tryz.ntmps61
      go_wp2
      go_returns
      exact ⟨by rw [HX.out]; rfl, HM.out⟩
  | false =>
    by_cases h : 224 ≤ x
    · by_cases h2 : x ≤ 239
      · have HX : Hid (adrGroup false (x :: y :: z :: u :: r) = true) := Lib.hid (decide_eq_true ⟨h, h2⟩)
        go_enter Tryz.func61, Tryz.ntmps61
        go_wp2
        go_returns
        exact ⟨by rw [HX.out]; rfl, HM.out⟩
      · have HX : Hid (adrGroup false (x :: y :: z :: u :: r) = false) := Lib.hid (decide_eq_false fun ⟨_, e⟩ => h2 e)
        go_enter Tryz.func61, Tryz.ntmps61
        go_wp2
        go_returns
        exact ⟨by rw [HX.out]; rfl, HM.out⟩
    · have HX : Hid (adrGroup false (x :: y :: z :: u :: r) = false) := Lib.hid (decide_eq_false fun ⟨e, _⟩ => h e)
      go_enter Tryz.func61, Tryz.ntmps61
      go_wp2
      go_returns
      exact ⟨by rw [HX.out]; rfl, HM.out⟩
end Go.Proofs.YtegjamjognpdkaaGreat
namespace Go.Proofs.YtegjamjognpdkaaGreat
open Go.RowKit
set_option linter.unusedVariables false
set_option linter.unusedSimpArgs false
theorem cmpL_at : ∀ (l m : List Int) (j : Nat), l.length = m.length → (∀ t, t < j → l.getD t 0 = m.getD t 0) → j ≤ l.length → cmpL l m = (if j < l.length then (if l.getD j 0 < m.getD j 0 then -1 else if m.getD j 0 < l.getD j 0 then 1 else cmpL (l.drop (j + 1)) (m.drop (j + 1))) else 0)
  | [], [], j, _, _, h => by
    have : j = 0 := by simpa using h
    subst this
    rfl
  | [], _ :: _, _, h, _, _ => by simp at h
  | _ :: _, [], _, h, _, _ => by simp at h
  | a :: l, c :: m, 0, h, _, _ => by simp [cmpL]
  | a :: l, c :: m, j + 1, h, he, hj => by
    have e0 : a = c := by simpa using he 0 (by omega)
    subst e0
    have ih := cmpL_at l m j (by simpa using h) (fun t ht => by simpa using he (t + 1) (by omega)) (by simpa using hj)
    simp only [cmpL, Int.lt_irrefl, if_false, ih, List.length_cons, Nat.add_lt_add_iff_right, List.getD_cons_succ, List.drop_succ_cons]
def cutA (v : Bool) (b : List Int) : List Int := cond v b (b.take 4)
def wideA (v : Bool) : Nat := cond v 16 4
theorem cutA_len (v : Bool) (b : List Int) (h : b.length = 16) : (cutA v b).length = wideA v := by cases v <;> simp [cutA, wideA, h]
theorem cutA_get (v : Bool) (b : List Int) (h : b.length = 16) (j : Nat) (hj : j < wideA v) : (cutA v b).getD j 0 = b.getD j 0 := by
  cases v with
  | true => rfl
  | false =>
    simp only [wideA, cond_false] at hj
    simp only [cutA, cond_false]
    rw [List.getD_eq_getElem?_getD, List.getD_eq_getElem?_getD, List.getElem?_take, if_pos hj]
theorem cmpA_cut (v : Bool) (b b' : List Int) : cmpA v b v b' = cmpL (cutA v b) (cutA v b') := by unfold cmpA cutA; rw [if_pos rfl]; cases v <;> rfl
section
variable {v : Bool} {b b' : List Int} {j : Nat}
theorem cmpA_lt (hb : b.length = 16) (hb' : b'.length = 16) (he : ∀ t, t < j → b.getD t 0 = b'.getD t 0) (hj : j < wideA v) (h : b.getD j 0 < b'.getD j 0) : cmpA v b v b' = -1 := by
  rw [cmpA_cut, cmpL_at _ _ j (by rw [cutA_len v b hb, cutA_len v b' hb']) (fun t ht => by rw [cutA_get v b hb t (by omega), cutA_get v b' hb' t (by omega)]; exact he t ht) (by rw [cutA_len v b hb]; omega), cutA_len v b hb, if_pos hj, cutA_get v b hb j hj, cutA_get v b' hb' j hj, if_pos h]
theorem cmpA_gt (hb : b.length = 16) (hb' : b'.length = 16) (he : ∀ t, t < j → b.getD t 0 = b'.getD t 0) (hj : j < wideA v) (h : b'.getD j 0 < b.getD j 0) : cmpA v b v b' = 1 := by
  rw [cmpA_cut, cmpL_at _ _ j (by rw [cutA_len v b hb, cutA_len v b' hb']) (fun t ht => by rw [cutA_get v b hb t (by omega), cutA_get v b' hb' t (by omega)]; exact he t ht) (by rw [cutA_len v b hb]; omega), cutA_len v b hb, if_pos hj, cutA_get v b hb j hj, cutA_get v b' hb' j hj, if_neg (by omega), if_pos h]
theorem cmpA_eq (hb : b.length = 16) (hb' : b'.length = 16) (he : ∀ t, t < wideA v → b.getD t 0 = b'.getD t 0) : cmpA v b v b' = 0 := by
  rw [cmpA_cut, cmpL_at _ _ (wideA v) (by rw [cutA_len v b hb, cutA_len v b' hb']) (fun t ht => by rw [cutA_get v b hb t (by omega), cutA_get v b' hb' t (by omega)]; exact he t ht) (by rw [cutA_len v b hb]; exact Nat.le_refl _), cutA_len v b hb, if_neg (Nat.lt_irrefl _)]
end
set_option maxRecDepth 100000 in
set_option maxHeartbeats 1000000 in
theorem refACmp_any (v v' : Bool) (b b' : List Int) (hb : b.length = 16) (hb' : b'.length = 16) (w : World) : Calls Tryz.prog 62 #[.agg (adrC v b).toArray, .agg (adrC v' b').toArray] w fun e w' => e = .returned (.int .i64 (cmpA v b v' b')) ∧ Mod (fun _ => False) w w' := by
  have HA := Lib.hid (Blk.alloc (Blk.new w 25 (adrC v b)) (.cells (adrC v' b').toArray 25 (0, 0)))
  have HC := Lib.hid (Blk.new (w.alloc (.cells (adrC v b).toArray 25 (0, 0))) 25 (adrC v' b'))
  have HM : Hid (Mod (fun _ => False) w ((w.alloc (.cells (adrC v b).toArray 25 (0, 0))).alloc (.cells (adrC v' b').toArray 25 (0, 0)))) := Lib.hid (((Mod.refl _ _).alloc _).alloc _)
  rw [show (w.alloc (.cells (adrC v b).toArray 25 (0, 0))).heap.size = w.heap.size + 1 by simp] at HC
  have HB := Lib.hid hb
  have HB' := Lib.hid hb'
  clear hb hb'
  have k0 : (adrC v b)[0]? = some (.bool v) := rfl
  have k1 : (adrC v' b')[0]? = some (.bool v') := rfl
  by_cases hv : v = v'
  · subst hv
    go_enter Tryz.func62, Tryz.ntmps62
    cases v
    · go_wp2_with fail
      obtain ⟨W, hW⟩ : ∃ W, W = (w.alloc (.cells (adrC false b).toArray 25 (0, 0))).alloc (.cells (adrC false b').toArray 25 (0, 0)) := ⟨_, rfl⟩
      obtain ⟨p, hp⟩ : ∃ p, p = w.heap.size := ⟨_, rfl⟩
      obtain ⟨q, hq⟩ : ∃ q, q = w.heap.size + 1 := ⟨_, rfl⟩
      rw [← hW] at HA HC HM
      rw [← hp] at HA
      rw [← hq] at HC
      rw [← hW, ← hq, ← hp]
      clear hW hp hq k0 k1
      go_loopw [5] (fun i wr => ∃ j : Nat, j ≤ 4 ∧ i = .int .i64 (j : Int) ∧ Mod (fun _ => False) W wr ∧ ∀ t, t < j → b.getD t 0 = b'.getD t 0) (fun i _ => 4 - (intOf i).toNat)
      case atStart => exact ⟨0, by omega, rfl, Mod.refl _ _, fun t ht => by omega⟩
      case round =>
        obtain ⟨j, hj, rfl, hm, hall⟩ := hrel
        have HMM := Lib.hid hm
        have HALL := Lib.hid hall
        have c0 : wr.cell? ⟨p, 0, none⟩ = some (.bool false) := hm.cell (fun f => f) (HA.out.cell rfl)
        clear hm hall
        by_cases hlt : j < 4
        · have hlt16 : j < 16 := by omega
          obtain ⟨x, hx⟩ : ∃ x, x = b.getD j 0 := ⟨_, rfl⟩
          obtain ⟨y, hy⟩ : ∃ y, y = b'.getD j 0 := ⟨_, rfl⟩
          have hS : wr.drew.cell? ⟨p, 1 + j, none⟩ = some (.int .u8 x) ∧ wr.drew.cell? ⟨q, 1 + j, none⟩ = some (.int .u8 y) := by
            rw [hx, hy]
            exact ⟨HMM.out.cell (fun f => f) (HA.out.cell (adrC_get false b HB.out j hlt16)), HMM.out.cell (fun f => f) (HC.out.cell (adrC_get false b' HB'.out j hlt16))⟩
          have HX := Lib.hid hx
          have HY := Lib.hid hy
          clear hx hy
          rcases Int.lt_trichotomy x y with h | h | h
          · have HR : Hid (cmpA false b false b' = -1) := Lib.hid (cmpA_lt (j := j) HB.out HB'.out HALL.out hlt (by rw [← HX.out, ← HY.out]; exact h))
            go_wp2_with fail
            refine wp_region_plan [] [(0, 0), (1, 0), (2, 0), (3, 1), (4, 0), (5, 0), (6, 0), (7, 1), (8, 0)] (fun w' : World => w'.cell? ⟨p, 1 + j, none⟩ = some (.int .u8 x) ∧ w'.cell? ⟨q, 1 + j, none⟩ = some (.int .u8 y)) (by kernel_rfl) (by kernel_rfl) (fun d _ _ _ _ h => by cases d <;> exact h) ?_
            repeat (first | (refine plan_skip rfl rfl ?_; simp only [List.getElem_toArray, List.getElem_cons_succ, List.getElem_cons_zero, Act.put, List.setIfInBounds_toArray, List.set_cons_zero, List.set_cons_succ]) | (refine plan_pass2 rfl rfl ?_; simp only [List.getElem_toArray, List.getElem_cons_succ, List.getElem_cons_zero, Act.put, List.setIfInBounds_toArray, List.set_cons_zero, List.set_cons_succ]) | (refine plan_pass3 rfl rfl ?_; simp only [List.getElem_toArray, List.getElem_cons_succ, List.getElem_cons_zero, Act.put, List.setIfInBounds_toArray, List.set_cons_zero, List.set_cons_succ]) | (refine plan_take (v := ?_) rfl rfl ?_ ?_; rotate_left; (focus (intro w0; go_simp; try with_reducible rfl)); simp only [List.getElem_toArray, List.getElem_cons_succ, List.getElem_cons_zero, Act.put, List.setIfInBounds_toArray, List.set_cons_zero, List.set_cons_succ]) | (refine plan_held (v := ?_) rfl rfl hS ?_ ?_; rotate_left; (focus (intro w0 hSw; (try dsimp only at hSw); go_split_ands; go_simp; try with_reducible rfl)); simp only [List.getElem_toArray, List.getElem_cons_succ, List.getElem_cons_zero, Act.put, List.setIfInBounds_toArray, List.set_cons_zero, List.set_cons_succ])  | (refine plan_skip1 rfl rfl hS ?_; simp only [List.getElem_toArray, List.getElem_cons_succ, List.getElem_cons_zero, Act.put, List.setIfInBounds_toArray, List.set_cons_zero, List.set_cons_succ]))
            refine plan_nil ?_
            go_wp2
            go_ret
            exact ⟨by rw [HR.out]; rfl, (HM.out.trans HMM.out fun _ f => f.elim).drew⟩
          · subst h
            go_wp2_with fail
            refine wp_region_plan [] [(0, 0), (1, 0), (2, 0), (3, 1), (4, 0), (5, 0), (6, 0), (7, 1), (8, 0)] (fun w' : World => w'.cell? ⟨p, 1 + j, none⟩ = some (.int .u8 x) ∧ w'.cell? ⟨q, 1 + j, none⟩ = some (.int .u8 x)) (by kernel_rfl) (by kernel_rfl) (fun d _ _ _ _ h => by cases d <;> exact h) ?_
            repeat (first | (refine plan_skip rfl rfl ?_; simp only [List.getElem_toArray, List.getElem_cons_succ, List.getElem_cons_zero, Act.put, List.setIfInBounds_toArray, List.set_cons_zero, List.set_cons_succ]) | (refine plan_pass2 rfl rfl ?_; simp only [List.getElem_toArray, List.getElem_cons_succ, List.getElem_cons_zero, Act.put, List.setIfInBounds_toArray, List.set_cons_zero, List.set_cons_succ]) | (refine plan_pass3 rfl rfl ?_; simp only [List.getElem_toArray, List.getElem_cons_succ, List.getElem_cons_zero, Act.put, List.setIfInBounds_toArray, List.set_cons_zero, List.set_cons_succ]) | (refine plan_take (v := ?_) rfl rfl ?_ ?_; rotate_left; (focus (intro w0; go_simp; try with_reducible rfl)); simp only [List.getElem_toArray, List.getElem_cons_succ, List.getElem_cons_zero, Act.put, List.setIfInBounds_toArray, List.set_cons_zero, List.set_cons_succ]) | (refine plan_held (v := ?_) rfl rfl hS ?_ ?_; rotate_left; (focus (intro w0 hSw; (try dsimp only at hSw); go_split_ands; go_simp; try with_reducible rfl)); simp only [List.getElem_toArray, List.getElem_cons_succ, List.getElem_cons_zero, Act.put, List.setIfInBounds_toArray, List.set_cons_zero, List.set_cons_succ])  | (refine plan_skip1 rfl rfl hS ?_; simp only [List.getElem_toArray, List.getElem_cons_succ, List.getElem_cons_zero, Act.put, List.setIfInBounds_toArray, List.set_cons_zero, List.set_cons_succ]))
            refine plan_nil ?_
            go_wp2_with fail
            refine wp_region_plan [] [(0, 0), (1, 0), (2, 0), (3, 1), (4, 0), (5, 0), (6, 0), (7, 1), (8, 0)] (fun w' : World => w'.cell? ⟨p, 1 + j, none⟩ = some (.int .u8 x) ∧ w'.cell? ⟨q, 1 + j, none⟩ = some (.int .u8 x)) (by kernel_rfl) (by kernel_rfl) (fun d _ _ _ _ h => by cases d <;> exact h) ?_
            repeat (first | (refine plan_skip rfl rfl ?_; simp only [List.getElem_toArray, List.getElem_cons_succ, List.getElem_cons_zero, Act.put, List.setIfInBounds_toArray, List.set_cons_zero, List.set_cons_succ]) | (refine plan_pass2 rfl rfl ?_; simp only [List.getElem_toArray, List.getElem_cons_succ, List.getElem_cons_zero, Act.put, List.setIfInBounds_toArray, List.set_cons_zero, List.set_cons_succ]) | (refine plan_pass3 rfl rfl ?_; simp only [List.getElem_toArray, List.getElem_cons_succ, List.getElem_cons_zero, Act.put, List.setIfInBounds_toArray, List.set_cons_zero, List.set_cons_succ]) | (refine plan_take (v := ?_) rfl rfl ?_ ?_; rotate_left; (focus (intro w0; go_simp; try with_reducible rfl)); simp only [List.getElem_toArray, List.getElem_cons_succ, List.getElem_cons_zero, Act.put, List.setIfInBounds_toArray, List.set_cons_zero, List.set_cons_succ]) | (refine plan_held (v := ?_) rfl rfl hS ?_ ?_; rotate_left; (focus (intro w0 hSw; (try dsimp only at hSw); go_split_ands; go_simp; try with_reducible rfl)); simp only [List.getElem_toArray, List.getElem_cons_succ, List.getElem_cons_zero, Act.put, List.setIfInBounds_toArray, List.set_cons_zero, List.set_cons_succ])  | (refine plan_skip1 rfl rfl hS ?_; simp only [List.getElem_toArray, List.getElem_cons_succ, List.getElem_cons_zero, Act.put, List.setIfInBounds_toArray, List.set_cons_zero, List.set_cons_succ]))
            refine plan_nil ?_
            go_wp2
            go_roundw
            case rel => exact ⟨j + 1, by omega, by go_num, HMM.out.drew.drew, fun t ht => by rcases (show t < j ∨ t = j by omega) with h | rfl; exact HALL.out t h; exact HX.out.symm.trans HY.out⟩
            case measure => simp [intOf]; omega
          · have hnlt : ¬ x < y := by omega
            have HR : Hid (cmpA false b false b' = 1) := Lib.hid (cmpA_gt (j := j) HB.out HB'.out HALL.out hlt (by rw [← HX.out, ← HY.out]; exact h))
            go_wp2_with fail
            refine wp_region_plan [] [(0, 0), (1, 0), (2, 0), (3, 1), (4, 0), (5, 0), (6, 0), (7, 1), (8, 0)] (fun w' : World => w'.cell? ⟨p, 1 + j, none⟩ = some (.int .u8 x) ∧ w'.cell? ⟨q, 1 + j, none⟩ = some (.int .u8 y)) (by kernel_rfl) (by kernel_rfl) (fun d _ _ _ _ h => by cases d <;> exact h) ?_
            repeat (first | (refine plan_skip rfl rfl ?_; simp only [List.getElem_toArray, List.getElem_cons_succ, List.getElem_cons_zero, Act.put, List.setIfInBounds_toArray, List.set_cons_zero, List.set_cons_succ]) | (refine plan_pass2 rfl rfl ?_; simp only [List.getElem_toArray, List.getElem_cons_succ, List.getElem_cons_zero, Act.put, List.setIfInBounds_toArray, List.set_cons_zero, List.set_cons_succ]) | (refine plan_pass3 rfl rfl ?_; simp only [List.getElem_toArray, List.getElem_cons_succ, List.getElem_cons_zero, Act.put, List.setIfInBounds_toArray, List.set_cons_zero, List.set_cons_succ]) | (refine plan_take (v := ?_) rfl rfl ?_ ?_; rotate_left; (focus (intro w0; go_simp; try with_reducible rfl)); simp only [List.getElem_toArray, List.getElem_cons_succ, List.getElem_cons_zero, Act.put, List.setIfInBounds_toArray, List.set_cons_zero, List.set_cons_succ]) | (refine plan_held (v := ?_) rfl rfl hS ?_ ?_; rotate_left; (focus (intro w0 hSw; (try dsimp only at hSw); go_split_ands; go_simp; try with_reducible rfl)); simp only [List.getElem_toArray, List.getElem_cons_succ, List.getElem_cons_zero, Act.put, List.setIfInBounds_toArray, List.set_cons_zero, List.set_cons_succ])  | (refine plan_skip1 rfl rfl hS ?_; simp only [List.getElem_toArray, List.getElem_cons_succ, List.getElem_cons_zero, Act.put, List.setIfInBounds_toArray, List.set_cons_zero, List.set_cons_succ]))
            refine plan_nil ?_
            go_wp2_with fail
            refine wp_region_plan [] [(0, 0), (1, 0), (2, 0), (3, 1), (4, 0), (5, 0), (6, 0), (7, 1), (8, 0)] (fun w' : World => w'.cell? ⟨p, 1 + j, none⟩ = some (.int .u8 x) ∧ w'.cell? ⟨q, 1 + j, none⟩ = some (.int .u8 y)) (by kernel_rfl) (by kernel_rfl) (fun d _ _ _ _ h => by cases d <;> exact h) ?_
            repeat (first | (refine plan_skip rfl rfl ?_; simp only [List.getElem_toArray, List.getElem_cons_succ, List.getElem_cons_zero, Act.put, List.setIfInBounds_toArray, List.set_cons_zero, List.set_cons_succ]) | (refine plan_pass2 rfl rfl ?_; simp only [List.getElem_toArray, List.getElem_cons_succ, List.getElem_cons_zero, Act.put, List.setIfInBounds_toArray, List.set_cons_zero, List.set_cons_succ]) | (refine plan_pass3 rfl rfl ?_; simp only [List.getElem_toArray, List.getElem_cons_succ, List.getElem_cons_zero, Act.put, List.setIfInBounds_toArray, List.set_cons_zero, List.set_cons_succ]) | (refine plan_take (v := ?_) rfl rfl ?_ ?_; rotate_left; (focus (intro w0; go_simp; try with_reducible rfl)); simp only [List.getElem_toArray, List.getElem_cons_succ, List.getElem_cons_zero, Act.put, List.setIfInBounds_toArray, List.set_cons_zero, List.set_cons_succ]) | (refine plan_held (v := ?_) rfl rfl hS ?_ ?_; rotate_left; (focus (intro w0 hSw; (try dsimp only at hSw); go_split_ands; go_simp; try with_reducible rfl)); simp only [List.getElem_toArray, List.getElem_cons_succ, List.getElem_cons_zero, Act.put, List.setIfInBounds_toArray, List.set_cons_zero, List.set_cons_succ])  | (refine plan_skip1 rfl rfl hS ?_; simp only [List.getElem_toArray, List.getElem_cons_succ, List.getElem_cons_zero, Act.put, List.setIfInBounds_toArray, List.set_cons_zero, List.set_cons_succ]))
            refine plan_nil ?_
            go_wp2
            go_ret
            exact ⟨by rw [HR.out]; rfl, (HM.out.trans HMM.out fun _ f => f.elim).drew.drew⟩
        · obtain rfl : j = 4 := by omega
          have HR : Hid (cmpA false b false b' = 0) := Lib.hid (cmpA_eq HB.out HB'.out HALL.out)
          go_wp2
          go_ret
          exact ⟨by rw [HR.out]; rfl, HM.out.trans HMM.out fun _ f => f.elim⟩
    · go_wp2_with fail
      obtain ⟨W, hW⟩ : ∃ W, W = (w.alloc (.cells (adrC true b).toArray 25 (0, 0))).alloc (.cells (adrC true b').toArray 25 (0, 0)) := ⟨_, rfl⟩
      obtain ⟨p, hp⟩ : ∃ p, p = w.heap.size := ⟨_, rfl⟩
      obtain ⟨q, hq⟩ : ∃ q, q = w.heap.size + 1 := ⟨_, rfl⟩
      rw [← hW] at HA HC HM
      rw [← hp] at HA
      rw [← hq] at HC
      rw [← hW, ← hq, ← hp]
      clear hW hp hq k0 k1
      go_loopw [5] (fun i wr => ∃ j : Nat, j ≤ 16 ∧ i = .int .i64 (j : Int) ∧ Mod (fun _ => False) W wr ∧ ∀ t, t < j → b.getD t 0 = b'.getD t 0) (fun i _ => 16 - (intOf i).toNat)
      case atStart => exact ⟨0, by omega, rfl, Mod.refl _ _, fun t ht => by omega⟩
      case round =>
        obtain ⟨j, hj, rfl, hm, hall⟩ := hrel
        have HMM := Lib.hid hm
        have HALL := Lib.hid hall
        have c0 : wr.cell? ⟨p, 0, none⟩ = some (.bool true) := hm.cell (fun f => f) (HA.out.cell rfl)
        clear hm hall
        by_cases hlt : j < 16
        · have hlt16 : j < 16 := by omega
          obtain ⟨x, hx⟩ : ∃ x, x = b.getD j 0 := ⟨_, rfl⟩
          obtain ⟨y, hy⟩ : ∃ y, y = b'.getD j 0 := ⟨_, rfl⟩
          have hS : wr.drew.cell? ⟨p, 1 + j, none⟩ = some (.int .u8 x) ∧ wr.drew.cell? ⟨q, 1 + j, none⟩ = some (.int .u8 y) := by
            rw [hx, hy]
            exact ⟨HMM.out.cell (fun f => f) (HA.out.cell (adrC_get true b HB.out j hlt16)), HMM.out.cell (fun f => f) (HC.out.cell (adrC_get true b' HB'.out j hlt16))⟩
          have HX := Lib.hid hx
          have HY := Lib.hid hy
          clear hx hy
          rcases Int.lt_trichotomy x y with h | h | h
          · have HR : Hid (cmpA true b true b' = -1) := Lib.hid (cmpA_lt (j := j) HB.out HB'.out HALL.out hlt (by rw [← HX.out, ← HY.out]; exact h))
            go_wp2_with fail
            refine wp_region_plan [] [(0, 0), (1, 0), (2, 0), (3, 1), (4, 0), (5, 0), (6, 0), (7, 1), (8, 0)] (fun w' : World => w'.cell? ⟨p, 1 + j, none⟩ = some (.int .u8 x) ∧ w'.cell? ⟨q, 1 + j, none⟩ = some (.int .u8 y)) (by kernel_rfl) (by kernel_rfl) (fun d _ _ _ _ h => by cases d <;> exact h) ?_
            repeat (first | (refine plan_skip rfl rfl ?_; simp only [List.getElem_toArray, List.getElem_cons_succ, List.getElem_cons_zero, Act.put, List.setIfInBounds_toArray, List.set_cons_zero, List.set_cons_succ]) | (refine plan_pass2 rfl rfl ?_; simp only [List.getElem_toArray, List.getElem_cons_succ, List.getElem_cons_zero, Act.put, List.setIfInBounds_toArray, List.set_cons_zero, List.set_cons_succ]) | (refine plan_pass3 rfl rfl ?_; simp only [List.getElem_toArray, List.getElem_cons_succ, List.getElem_cons_zero, Act.put, List.setIfInBounds_toArray, List.set_cons_zero, List.set_cons_succ]) | (refine plan_take (v := ?_) rfl rfl ?_ ?_; rotate_left; (focus (intro w0; go_simp; try with_reducible rfl)); simp only [List.getElem_toArray, List.getElem_cons_succ, List.getElem_cons_zero, Act.put, List.setIfInBounds_toArray, List.set_cons_zero, List.set_cons_succ]) | (refine plan_held (v := ?_) rfl rfl hS ?_ ?_; rotate_left; (focus (intro w0 hSw; (try dsimp only at hSw); go_split_ands; go_simp; try with_reducible rfl)); simp only [List.getElem_toArray, List.getElem_cons_succ, List.getElem_cons_zero, Act.put, List.setIfInBounds_toArray, List.set_cons_zero, List.set_cons_succ])  | (refine plan_skip1 rfl rfl hS ?_; simp only [List.getElem_toArray, List.getElem_cons_succ, List.getElem_cons_zero, Act.put, List.setIfInBounds_toArray, List.set_cons_zero, List.set_cons_succ]))
            refine plan_nil ?_
            go_wp2
            go_ret
            exact ⟨by rw [HR.out]; rfl, (HM.out.trans HMM.out fun _ f => f.elim).drew⟩
          · subst h
            go_wp2_with fail
            refine wp_region_plan [] [(0, 0), (1, 0), (2, 0), (3, 1), (4, 0), (5, 0), (6, 0), (7, 1), (8, 0)] (fun w' : World => w'.cell? ⟨p, 1 + j, none⟩ = some (.int .u8 x) ∧ w'.cell? ⟨q, 1 + j, none⟩ = some (.int .u8 x)) (by kernel_rfl) (by kernel_rfl) (fun d _ _ _ _ h => by cases d <;> exact h) ?_
            repeat (first | (refine plan_skip rfl rfl ?_; simp only [List.getElem_toArray, List.getElem_cons_succ, List.getElem_cons_zero, Act.put, List.setIfInBounds_toArray, List.set_cons_zero, List.set_cons_succ]) | (refine plan_pass2 rfl rfl ?_; simp only [List.getElem_toArray, List.getElem_cons_succ, List.getElem_cons_zero, Act.put, List.setIfInBounds_toArray, List.set_cons_zero, List.set_cons_succ]) | (refine plan_pass3 rfl rfl ?_; simp only [List.getElem_toArray, List.getElem_cons_succ, List.getElem_cons_zero, Act.put, List.setIfInBounds_toArray, List.set_cons_zero, List.set_cons_succ]) | (refine plan_take (v := ?_) rfl rfl ?_ ?_; rotate_left; (focus (intro w0; go_simp; try with_reducible rfl)); simp only [List.getElem_toArray, List.getElem_cons_succ, List.getElem_cons_zero, Act.put, List.setIfInBounds_toArray, List.set_cons_zero, List.set_cons_succ]) | (refine plan_held (v := ?_) rfl rfl hS ?_ ?_; rotate_left; (focus (intro w0 hSw; (try dsimp only at hSw); go_split_ands; go_simp; try with_reducible rfl)); simp only [List.getElem_toArray, List.getElem_cons_succ, List.getElem_cons_zero, Act.put, List.setIfInBounds_toArray, List.set_cons_zero, List.set_cons_succ])  | (refine plan_skip1 rfl rfl hS ?_; simp only [List.getElem_toArray, List.getElem_cons_succ, List.getElem_cons_zero, Act.put, List.setIfInBounds_toArray, List.set_cons_zero, List.set_cons_succ]))
            refine plan_nil ?_
            go_wp2_with fail
            refine wp_region_plan [] [(0, 0), (1, 0), (2, 0), (3, 1), (4, 0), (5, 0), (6, 0), (7, 1), (8, 0)] (fun w' : World => w'.cell? ⟨p, 1 + j, none⟩ = some (.int .u8 x) ∧ w'.cell? ⟨q, 1 + j, none⟩ = some (.int .u8 x)) (by kernel_rfl) (by kernel_rfl) (fun d _ _ _ _ h => by cases d <;> exact h) ?_
            repeat (first | (refine plan_skip rfl rfl ?_; simp only [List.getElem_toArray, List.getElem_cons_succ, List.getElem_cons_zero, Act.put, List.setIfInBounds_toArray, List.set_cons_zero, List.set_cons_succ]) | (refine plan_pass2 rfl rfl ?_; simp only [List.getElem_toArray, List.getElem_cons_succ, List.getElem_cons_zero, Act.put, List.setIfInBounds_toArray, List.set_cons_zero, List.set_cons_succ]) | (refine plan_pass3 rfl rfl ?_; simp only [List.getElem_toArray, List.getElem_cons_succ, List.getElem_cons_zero, Act.put, List.setIfInBounds_toArray, List.set_cons_zero, List.set_cons_succ]) | (refine plan_take (v := ?_) rfl rfl ?_ ?_; rotate_left; (focus (intro w0; go_simp; try with_reducible rfl)); simp only [List.getElem_toArray, List.getElem_cons_succ, List.getElem_cons_zero, Act.put, List.setIfInBounds_toArray, List.set_cons_zero, List.set_cons_succ]) | (refine plan_held (v := ?_) rfl rfl hS ?_ ?_; rotate_left; (focus (intro w0 hSw; (try dsimp only at hSw); go_split_ands; go_simp; try with_reducible rfl)); simp only [List.getElem_toArray, List.getElem_cons_succ, List.getElem_cons_zero, Act.put, List.setIfInBounds_toArray, List.set_cons_zero, List.set_cons_succ])  | (refine plan_skip1 rfl rfl hS ?_; simp only [List.getElem_toArray, List.getElem_cons_succ, List.getElem_cons_zero, Act.put, List.setIfInBounds_toArray, List.set_cons_zero, List.set_cons_succ]))
            refine plan_nil ?_
            go_wp2
            go_roundw
            case rel => exact ⟨j + 1, by omega, by go_num, HMM.out.drew.drew, fun t ht => by rcases (show t < j ∨ t = j by omega) with h | rfl; exact HALL.out t h; exact HX.out.symm.trans HY.out⟩
            case measure => simp [intOf]; omega
          · have hnlt : ¬ x < y := by omega
            have HR : Hid (cmpA true b true b' = 1) := Lib.hid (cmpA_gt (j := j) HB.out HB'.out HALL.out hlt (by rw [← HX.out, ← HY.out]; exact h))
            go_wp2_with fail
            refine wp_region_plan [] [(0, 0), (1, 0), (2, 0), (3, 1), (4, 0), (5, 0), (6, 0), (7, 1), (8, 0)] (fun w' : World => w'.cell? ⟨p, 1 + j, none⟩ = some (.int .u8 x) ∧ w'.cell? ⟨q, 1 + j, none⟩ = some (.int .u8 y)) (by kernel_rfl) (by kernel_rfl) (fun d _ _ _ _ h => by cases d <;> exact h) ?_
            repeat (first | (refine plan_skip rfl rfl ?_; simp only [List.getElem_toArray, List.getElem_cons_succ, List.getElem_cons_zero, Act.put, List.setIfInBounds_toArray, List.set_cons_zero, List.set_cons_succ]) | (refine plan_pass2 rfl rfl ?_; simp only [List.getElem_toArray, List.getElem_cons_succ, List.getElem_cons_zero, Act.put, List.setIfInBounds_toArray, List.set_cons_zero, List.set_cons_succ]) | (refine plan_pass3 rfl rfl ?_; simp only [List.getElem_toArray, List.getElem_cons_succ, List.getElem_cons_zero, Act.put, List.setIfInBounds_toArray, List.set_cons_zero, List.set_cons_succ]) | (refine plan_take (v := ?_) rfl rfl ?_ ?_; rotate_left; (focus (intro w0; go_simp; try with_reducible rfl)); simp only [List.getElem_toArray, List.getElem_cons_succ, List.getElem_cons_zero, Act.put, List.setIfInBounds_toArray, List.set_cons_zero, List.set_cons_succ]) | (refine plan_held (v := ?_) rfl rfl hS ?_ ?_; rotate_left; (focus (intro w0 hSw; (try dsimp only at hSw); go_split_ands; go_simp; try with_reducible rfl)); simp only [List.getElem_toArray, List.getElem_cons_succ, List.getElem_cons_zero, Act.put, List.setIfInBounds_toArray, List.set_cons_zero, List.set_cons_succ])  | (refine plan_skip1 rfl rfl hS ?_; simp only [List.getElem_toArray, List.getElem_cons_succ, List.getElem_cons_zero, Act.put, List.setIfInBounds_toArray, List.set_cons_zero, List.set_cons_succ]))
            refine plan_nil ?_
            go_wp2_with fail
            refine wp_region_plan [] [(0, 0), (1, 0), (2, 0), (3, 1), (4, 0), (5, 0), (6, 0), (7, 1), (8, 0)] (fun w' : World => w'.cell? ⟨p, 1 + j, none⟩ = some (.int .u8 x) ∧ w'.cell? ⟨q, 1 + j, none⟩ = some (.int .u8 y)) (by kernel_rfl) (by kernel_rfl) (fun d _ _ _ _ h => by cases d <;> exact h) ?_
            repeat (first | (refine plan_skip rfl rfl ?_; simp only [List.getElem_toArray, List.getElem_cons_succ, List.getElem_cons_zero, Act.put, List.setIfInBounds_toArray, List.set_cons_zero, List.set_cons_succ]) | (refine plan_pass2 rfl rfl ?_; simp only [List.getElem_toArray, List.getElem_cons_succ, List.getElem_cons_zero, Act.put, List.setIfInBounds_toArray, List.set_cons_zero, List.set_cons_succ]) | (refine plan_pass3 rfl rfl ?_; simp only [List.getElem_toArray, List.getElem_cons_succ, List.getElem_cons_zero, Act.put, List.setIfInBounds_toArray, List.set_cons_zero, List.set_cons_succ]) | (refine plan_take (v := ?_) rfl rfl ?_ ?_; rotate_left; (focus (intro w0; go_simp; try with_reducible rfl)); simp only [List.getElem_toArray, List.getElem_cons_succ, List.getElem_cons_zero, Act.put, List.setIfInBounds_toArray, List.set_cons_zero, List.set_cons_succ]) | (refine plan_held (v := ?_) rfl rfl hS ?_ ?_; rotate_left; (focus (intro w0 hSw; (try dsimp only at hSw); go_split_ands; go_simp; try with_reducible rfl)); simp only [List.getElem_toArray, List.getElem_cons_succ, List.getElem_cons_zero, Act.put, List.setIfInBounds_toArray, List.set_cons_zero, List.set_cons_succ])  | (refine plan_skip1 rfl rfl hS ?_; simp only [List.getElem_toArray, List.getElem_cons_succ, List.getElem_cons_zero, Act.put, List.setIfInBounds_toArray, List.set_cons_zero, List.set_cons_succ]))
            refine plan_nil ?_
            go_wp2
            go_ret
            exact ⟨by rw [HR.out]; rfl, (HM.out.trans HMM.out fun _ f => f.elim).drew.drew⟩
        · obtain rfl : j = 16 := by omega
          have HR : Hid (cmpA true b true b' = 0) := Lib.hid (cmpA_eq HB.out HB'.out HALL.out)
          go_wp2
          go_ret
          exact ⟨by rw [HR.out]; rfl, HM.out.trans HMM.out fun _ f => f.elim⟩
  · have HX : Hid (cmpA v b v' b' = cond v' (-1) 1) := Lib.hid (by unfold cmpA; rw [if_neg hv])
    go_enter Tryz.func62, Tryz.ntmps62
    cases v <;> cases v' <;> first | exact absurd rfl hv | skip
    · go_wp2
      go_returns
      exact ⟨by rw [HX.out]; rfl, HM.out⟩
    · go_wp2
      go_returns
      exact ⟨by rw [HX.out]; rfl, HM.out⟩
end Go.Proofs.YtegjamjognpdkaaGreat
namespace Go.Proofs.YtegjamjognpdkaaGreat
open Go.RowKit
set_option linter.unusedVariables false
set_option linter.unusedSimpArgs false
end Go.Proofs.YtegjamjognpdkaaGreat
namespace Go.Proofs.YtegjamjognpdkaaGreat
open Go.RowKit
set_option linter.unusedVariables false
set_option linter.unusedSimpArgs false
set_option maxRecDepth 100000 in
set_option maxHeartbeats 4000000 in
theorem refOne_any (r : TRow) (sv : Value) (hb : adrOk r.b) (w : World) (hn : Reads w sv r.next.length (ints r.next)) :
    Calls Tryz.prog 42 #[.agg (r.c sv).toArray] w fun e w' => e = .returned (.bool (oneT r)) ∧ Mod (fun _ => False) w w' := by
  have hA := Blk.new w 28 (r.c sv)
  have hm : Mod (fun _ => False) w (w.alloc (.cells (r.c sv).toArray 28 (0, 0))) := (Mod.refl _ _).alloc _
  have hr := hn.keep0 hm
  obtain ⟨ad, cp, rfl, hnc, hcm, hg⟩ := hr
  unfold maxLen at hcm
  obtain ⟨n, hnl⟩ : ∃ n, n = r.next.length := ⟨_, rfl⟩
  have HL := Lib.hid hnl
  rw [← hnl] at hnc hg hA hm ⊢
  have HS : Hid ((Tryz.prog.info? 25).map (·.size) = some (adrC r.v6 r.b).length) := Lib.hid (by rw [adrC_len, hb.1]; exact adrSz)
  have HO := Lib.hid hb
  obtain ⟨C, hC⟩ : ∃ C, C = r.c (.slice ad n cp) := ⟨_, rfl⟩
  have h0 : C[0]? = some (.int .i64 r.vlan) := by rw [hC]; exact rowC_0 ..
  have h18 : C[18]? = some (.int .i64 r.root) := by rw [hC]; exact rowC_18 _ _ _ _ _ hb.1
  have h19 : C[19]? = some (.slice ad n cp) := by rw [hC]; exact rowC_19 _ _ _ _ _ hb.1
  have hcs : (C.drop 1).take (adrC r.v6 r.b).length = adrC r.v6 r.b := by rw [hC]; exact rowC_adrs' r _ hb.1
  rw [← hC] at hA hm hg ⊢
  have HC0 := Lib.hid h0
  have HC18 := Lib.hid h18
  have HC19 := Lib.hid h19
  have HCS := Lib.hid hcs
  clear h0 h18 hcs hC hn hnl hb
  go_enter Tryz.func42, Tryz.ntmps42
  go_wp2_with fail
  obtain ⟨W0, hW0⟩ : ∃ W0, W0 = w.alloc (.cells C.toArray 28 (0, 0)) := ⟨_, rfl⟩
  obtain ⟨pb, hpb⟩ : ∃ pb, pb = w.heap.size := ⟨_, rfl⟩
  rw [← hW0] at hA hm hg
  rw [← hpb] at hA
  try rw [← hW0]
  try rw [← hpb]
  have HA0 := Lib.hid hA
  have HM0 := Lib.hid hm
  have HG := Lib.hid hg
  clear hA hm hg hW0 hpb h19
  go_loopw [3] (fun i wr => ∃ j : Nat, j ≤ n ∧ i = .int .i64 (j : Int) ∧ Mod (fun _ => False) W0 wr ∧ ∀ t, t < j → nextOk r.next t = true) (fun i _ => n - (intOf i).toNat)
  case atStart => exact ⟨0, Nat.zero_le _, rfl, Mod.refl _ _, fun t ht => by omega⟩
  case round =>
    obtain ⟨j, hj, rfl, hmm, hall⟩ := hrel
    have HALL := Lib.hid hall
    have HMM := Lib.hid hmm
    have HA := Lib.hid (HA0.out.keep hmm fun f => f)
    have HM := Lib.hid (HM0.out.trans hmm fun _ f => f.elim)
    have c19 : wr.cell? ⟨pb, 19, none⟩ = some (.slice ad n cp) := HA.out.cell HC19.out
    clear hall hmm
    by_cases hlt : j < n
    · obtain ⟨g, o, rfl, hcg⟩ := HG.out (by omega)
      obtain ⟨x, hx⟩ : ∃ x, x = r.next.getD j 0 := ⟨_, rfl⟩
      have cj : wr.cell? ⟨g, o + j, none⟩ = some (.int .i64 x) := by rw [hx]; exact HMM.out.cell (fun f => f) (hcg j _ (ints_get _ _ (by have := HL.out; omega)))
      have HCJ := Lib.hid cj
      have HC19' := Lib.hid c19
      by_cases hx0 : x < 0
      · have HN : Hid (oneT r = false) := Lib.hid (oneT_no r j (by have := HL.out; omega) (nextOk_no _ _ (.inl (by rw [← hx]; omega))))
        clear hcg hx cj
        go_wp2_with fail
        refine wp_region_plan [] [(0, 0), (1, 1), (2, 0), (3, 0), (4, 1), (5, 0), (6, 0), (7, 0), (8, 1), (9, 0), (10, 0), (11, 1), (12, 0), (13, 0), (14, 0), (15, 0), (16, 0), (17, 0), (18, 0), (19, 1), (20, 0), (21, 0), (22, 0), (23, 1), (24, 0), (25, 1), (26, 0), (27, 0), (28, 1), (29, 0), (30, 0), (31, 0)] (fun w' : World => w'.cell? ⟨pb, 19, none⟩ = some (.slice (some ⟨g, o, none⟩) n cp) ∧ w'.cell? ⟨g, o + j, none⟩ = some (.int .i64 x)) (by kernel_rfl) (by kernel_rfl) (fun d _ _ _ _ h => by cases d <;> exact h) ?_
        repeat (first | (refine plan_skip rfl rfl ?_; simp only [List.getElem_toArray, List.getElem_cons_succ, List.getElem_cons_zero, Act.put, List.setIfInBounds_toArray, List.set_cons_zero, List.set_cons_succ]) | (refine plan_pass2 rfl rfl ?_; simp only [List.getElem_toArray, List.getElem_cons_succ, List.getElem_cons_zero, Act.put, List.setIfInBounds_toArray, List.set_cons_zero, List.set_cons_succ]) | (refine plan_pass3 rfl rfl ?_; simp only [List.getElem_toArray, List.getElem_cons_succ, List.getElem_cons_zero, Act.put, List.setIfInBounds_toArray, List.set_cons_zero, List.set_cons_succ]) | (refine plan_take (v := ?_) rfl rfl ?_ ?_; rotate_left; (focus (intro w0; go_simp; try with_reducible rfl)); simp only [List.getElem_toArray, List.getElem_cons_succ, List.getElem_cons_zero, Act.put, List.setIfInBounds_toArray, List.set_cons_zero, List.set_cons_succ]) | (refine plan_held (v := ?_) rfl rfl (⟨HC19'.out, HCJ.out⟩) ?_ ?_; rotate_left; (focus (intro w0 hSw; (try dsimp only at hSw); go_split_ands; go_simp; try with_reducible rfl)); simp only [List.getElem_toArray, List.getElem_cons_succ, List.getElem_cons_zero, Act.put, List.setIfInBounds_toArray, List.set_cons_zero, List.set_cons_succ])  | (refine plan_skip1 rfl rfl (⟨HC19'.out, HCJ.out⟩) ?_; simp only [List.getElem_toArray, List.getElem_cons_succ, List.getElem_cons_zero, Act.put, List.setIfInBounds_toArray, List.set_cons_zero, List.set_cons_succ]))
        refine plan_nil ?_
        go_wp2
        go_ret
        exact ⟨by rw [HN.out]; rfl, HM.out.drew⟩
      · have hd0 : decide (x < 0) = false := decide_eq_false hx0
        by_cases hx1 : x ≤ 65535
        · have hd1 : decide (65535 < x) = false := decide_eq_false (by omega)
          by_cases h0 : j = 0
          · have HN : Hid (nextOk r.next j = true) := Lib.hid (nextOk_yes _ _ (by rw [← hx]; omega) (.inl h0))
            subst h0
            simp only [Nat.add_zero] at cj HCJ
            clear hcg hx cj
            go_wp2_with fail
            refine wp_region_plan [] [(0, 0), (1, 1), (2, 0), (3, 0), (4, 1), (5, 0), (6, 0), (7, 0), (8, 1), (9, 0), (10, 0), (11, 1), (12, 0), (13, 0), (14, 0), (15, 0), (16, 0), (17, 0), (18, 0), (19, 1), (20, 0), (21, 0), (22, 0), (23, 1), (24, 0), (25, 1), (26, 0), (27, 0), (28, 1), (29, 0), (30, 0), (31, 0)] (fun w' : World => w'.cell? ⟨pb, 19, none⟩ = some (.slice (some ⟨g, o, none⟩) n cp) ∧ w'.cell? ⟨g, o, none⟩ = some (.int .i64 x)) (by kernel_rfl) (by kernel_rfl) (fun d _ _ _ _ h => by cases d <;> exact h) ?_
            repeat (first | (refine plan_skip rfl rfl ?_; simp only [List.getElem_toArray, List.getElem_cons_succ, List.getElem_cons_zero, Act.put, List.setIfInBounds_toArray, List.set_cons_zero, List.set_cons_succ]) | (refine plan_pass2 rfl rfl ?_; simp only [List.getElem_toArray, List.getElem_cons_succ, List.getElem_cons_zero, Act.put, List.setIfInBounds_toArray, List.set_cons_zero, List.set_cons_succ]) | (refine plan_pass3 rfl rfl ?_; simp only [List.getElem_toArray, List.getElem_cons_succ, List.getElem_cons_zero, Act.put, List.setIfInBounds_toArray, List.set_cons_zero, List.set_cons_succ]) | (refine plan_take (v := ?_) rfl rfl ?_ ?_; rotate_left; (focus (intro w0; go_simp; try with_reducible rfl)); simp only [List.getElem_toArray, List.getElem_cons_succ, List.getElem_cons_zero, Act.put, List.setIfInBounds_toArray, List.set_cons_zero, List.set_cons_succ]) | (refine plan_held (v := ?_) rfl rfl (⟨HC19'.out, HCJ.out⟩) ?_ ?_; rotate_left; (focus (intro w0 hSw; (try dsimp only at hSw); go_split_ands; go_simp; try with_reducible rfl)); simp only [List.getElem_toArray, List.getElem_cons_succ, List.getElem_cons_zero, Act.put, List.setIfInBounds_toArray, List.set_cons_zero, List.set_cons_succ])  | (refine plan_skip1 rfl rfl (⟨HC19'.out, HCJ.out⟩) ?_; simp only [List.getElem_toArray, List.getElem_cons_succ, List.getElem_cons_zero, Act.put, List.setIfInBounds_toArray, List.set_cons_zero, List.set_cons_succ]))
            refine plan_nil ?_
            go_wp2
            go_roundw
            case rel => exact ⟨1, by omega, by go_num, HMM.out.drew, fun t ht => by rw [show t = 0 by omega]; exact HN.out⟩
            case measure => simp [intOf]; omega
          · obtain ⟨k, hjk⟩ : ∃ k, j = k + 1 := ⟨j - 1, by omega⟩
            obtain ⟨y, hy⟩ : ∃ y, y = r.next.getD k 0 := ⟨_, rfl⟩
            have ck : wr.cell? ⟨g, o + k, none⟩ = some (.int .i64 y) := by rw [hy]; exact HMM.out.cell (fun f => f) (hcg k _ (ints_get _ _ (by have := HL.out; omega)))
            have HCK := Lib.hid ck
            have ek : IntKind.i64.wrap ((j : Int) - 1) = (k : Int) := by rw [show (j : Int) - 1 = (k : Int) by omega]; exact IntWalk.i64_in _ (by omega)
            have hk0 : 0 < j := by omega
            have hkn : k < n := by omega
            have HJK := Lib.hid hjk
            by_cases hyx : y < x
            · have HN : Hid (nextOk r.next j = true) := Lib.hid (nextOk_yes _ _ (by rw [← hx]; omega) (.inr (by rw [show j - 1 = k by omega, ← hx, ← hy]; exact hyx)))
              have hd2 : decide (x ≤ y) = false := decide_eq_false (by omega)
              clear hcg hx hy h0 cj ck hjk
              go_wp2_with fail
              refine wp_region_plan [] [(0, 0), (1, 1), (2, 0), (3, 0), (4, 1), (5, 0), (6, 0), (7, 0), (8, 1), (9, 0), (10, 0), (11, 1), (12, 0), (13, 0), (14, 0), (15, 0), (16, 0), (17, 0), (18, 0), (19, 1), (20, 0), (21, 0), (22, 0), (23, 1), (24, 0), (25, 1), (26, 0), (27, 0), (28, 1), (29, 0), (30, 0), (31, 0)] (fun w' : World => w'.cell? ⟨pb, 19, none⟩ = some (.slice (some ⟨g, o, none⟩) n cp) ∧ w'.cell? ⟨g, o + j, none⟩ = some (.int .i64 x) ∧ w'.cell? ⟨g, o + k, none⟩ = some (.int .i64 y)) (by kernel_rfl) (by kernel_rfl) (fun d _ _ _ _ h => by cases d <;> exact h) ?_
              repeat (first | (refine plan_skip rfl rfl ?_; simp only [List.getElem_toArray, List.getElem_cons_succ, List.getElem_cons_zero, Act.put, List.setIfInBounds_toArray, List.set_cons_zero, List.set_cons_succ]) | (refine plan_pass2 rfl rfl ?_; simp only [List.getElem_toArray, List.getElem_cons_succ, List.getElem_cons_zero, Act.put, List.setIfInBounds_toArray, List.set_cons_zero, List.set_cons_succ]) | (refine plan_pass3 rfl rfl ?_; simp only [List.getElem_toArray, List.getElem_cons_succ, List.getElem_cons_zero, Act.put, List.setIfInBounds_toArray, List.set_cons_zero, List.set_cons_succ]) | (refine plan_take (v := ?_) rfl rfl ?_ ?_; rotate_left; (focus (intro w0; go_simp; try with_reducible rfl)); simp only [List.getElem_toArray, List.getElem_cons_succ, List.getElem_cons_zero, Act.put, List.setIfInBounds_toArray, List.set_cons_zero, List.set_cons_succ]) | (refine plan_held (v := ?_) rfl rfl (⟨HC19'.out, HCJ.out, HCK.out⟩) ?_ ?_; rotate_left; (focus (intro w0 hSw; (try dsimp only at hSw); go_split_ands; go_simp; try with_reducible rfl)); simp only [List.getElem_toArray, List.getElem_cons_succ, List.getElem_cons_zero, Act.put, List.setIfInBounds_toArray, List.set_cons_zero, List.set_cons_succ])  | (refine plan_skip1 rfl rfl (⟨HC19'.out, HCJ.out, HCK.out⟩) ?_; simp only [List.getElem_toArray, List.getElem_cons_succ, List.getElem_cons_zero, Act.put, List.setIfInBounds_toArray, List.set_cons_zero, List.set_cons_succ]))
              refine plan_nil ?_
              go_wp2
              go_roundw
              case rel => exact ⟨j + 1, by omega, by go_num, HMM.out.drew, fun t ht => by rcases (show t < j ∨ t = j by omega) with h | rfl; exact HALL.out t h; exact HN.out⟩
              case measure => simp [intOf]; omega
            · have HN : Hid (oneT r = false) := Lib.hid (oneT_no r j (by have := HL.out; omega) (nextOk_no _ _ (.inr ⟨by omega, by rw [show j - 1 = k by omega, ← hx, ← hy]; exact hyx⟩)))
              have hd2 : decide (x ≤ y) = true := decide_eq_true (by omega)
              clear hcg hx hy h0 cj ck hjk
              go_wp2_with fail
              refine wp_region_plan [] [(0, 0), (1, 1), (2, 0), (3, 0), (4, 1), (5, 0), (6, 0), (7, 0), (8, 1), (9, 0), (10, 0), (11, 1), (12, 0), (13, 0), (14, 0), (15, 0), (16, 0), (17, 0), (18, 0), (19, 1), (20, 0), (21, 0), (22, 0), (23, 1), (24, 0), (25, 1), (26, 0), (27, 0), (28, 1), (29, 0), (30, 0), (31, 0)] (fun w' : World => w'.cell? ⟨pb, 19, none⟩ = some (.slice (some ⟨g, o, none⟩) n cp) ∧ w'.cell? ⟨g, o + j, none⟩ = some (.int .i64 x) ∧ w'.cell? ⟨g, o + k, none⟩ = some (.int .i64 y)) (by kernel_rfl) (by kernel_rfl) (fun d _ _ _ _ h => by cases d <;> exact h) ?_
              repeat (first | (refine plan_skip rfl rfl ?_; simp only [List.getElem_toArray, List.getElem_cons_succ, List.getElem_cons_zero, Act.put, List.setIfInBounds_toArray, List.set_cons_zero, List.set_cons_succ]) | (refine plan_pass2 rfl rfl ?_; simp only [List.getElem_toArray, List.getElem_cons_succ, List.getElem_cons_zero, Act.put, List.setIfInBounds_toArray, List.set_cons_zero, List.set_cons_succ]) | (refine plan_pass3 rfl rfl ?_; simp only [List.getElem_toArray, List.getElem_cons_succ, List.getElem_cons_zero, Act.put, List.setIfInBounds_toArray, List.set_cons_zero, List.set_cons_succ]) | (refine plan_take (v := ?_) rfl rfl ?_ ?_; rotate_left; (focus (intro w0; go_simp; try with_reducible rfl)); simp only [List.getElem_toArray, List.getElem_cons_succ, List.getElem_cons_zero, Act.put, List.setIfInBounds_toArray, List.set_cons_zero, List.set_cons_succ]) | (refine plan_held (v := ?_) rfl rfl (⟨HC19'.out, HCJ.out, HCK.out⟩) ?_ ?_; rotate_left; (focus (intro w0 hSw; (try dsimp only at hSw); go_split_ands; go_simp; try with_reducible rfl)); simp only [List.getElem_toArray, List.getElem_cons_succ, List.getElem_cons_zero, Act.put, List.setIfInBounds_toArray, List.set_cons_zero, List.set_cons_succ])  | (refine plan_skip1 rfl rfl (⟨HC19'.out, HCJ.out, HCK.out⟩) ?_; simp only [List.getElem_toArray, List.getElem_cons_succ, List.getElem_cons_zero, Act.put, List.setIfInBounds_toArray, List.set_cons_zero, List.set_cons_succ]))
              refine plan_nil ?_
              go_wp2
              go_ret
              exact ⟨by rw [HN.out]; rfl, HM.out.drew⟩
        · have HN : Hid (oneT r = false) := Lib.hid (oneT_no r j (by have := HL.out; omega) (nextOk_no _ _ (.inl (by rw [← hx]; omega))))
          have hd1 : decide (65535 < x) = true := decide_eq_true (by omega)
          clear hcg hx cj
          go_wp2_with fail
          refine wp_region_plan [] [(0, 0), (1, 1), (2, 0), (3, 0), (4, 1), (5, 0), (6, 0), (7, 0), (8, 1), (9, 0), (10, 0), (11, 1), (12, 0), (13, 0), (14, 0), (15, 0), (16, 0), (17, 0), (18, 0), (19, 1), (20, 0), (21, 0), (22, 0), (23, 1), (24, 0), (25, 1), (26, 0), (27, 0), (28, 1), (29, 0), (30, 0), (31, 0)] (fun w' : World => w'.cell? ⟨pb, 19, none⟩ = some (.slice (some ⟨g, o, none⟩) n cp) ∧ w'.cell? ⟨g, o + j, none⟩ = some (.int .i64 x)) (by kernel_rfl) (by kernel_rfl) (fun d _ _ _ _ h => by cases d <;> exact h) ?_
          repeat (first | (refine plan_skip rfl rfl ?_; simp only [List.getElem_toArray, List.getElem_cons_succ, List.getElem_cons_zero, Act.put, List.setIfInBounds_toArray, List.set_cons_zero, List.set_cons_succ]) | (refine plan_pass2 rfl rfl ?_; simp only [List.getElem_toArray, List.getElem_cons_succ, List.getElem_cons_zero, Act.put, List.setIfInBounds_toArray, List.set_cons_zero, List.set_cons_succ]) | (refine plan_pass3 rfl rfl ?_; simp only [List.getElem_toArray, List.getElem_cons_succ, List.getElem_cons_zero, Act.put, List.setIfInBounds_toArray, List.set_cons_zero, List.set_cons_succ]) | (refine plan_take (v := ?_) rfl rfl ?_ ?_; rotate_left; (focus (intro w0; go_simp; try with_reducible rfl)); simp only [List.getElem_toArray, List.getElem_cons_succ, List.getElem_cons_zero, Act.put, List.setIfInBounds_toArray, List.set_cons_zero, List.set_cons_succ]) | (refine plan_held (v := ?_) rfl rfl (⟨HC19'.out, HCJ.out⟩) ?_ ?_; rotate_left; (focus (intro w0 hSw; (try dsimp only at hSw); go_split_ands; go_simp; try with_reducible rfl)); simp only [List.getElem_toArray, List.getElem_cons_succ, List.getElem_cons_zero, Act.put, List.setIfInBounds_toArray, List.set_cons_zero, List.set_cons_succ])  | (refine plan_skip1 rfl rfl (⟨HC19'.out, HCJ.out⟩) ?_; simp only [List.getElem_toArray, List.getElem_cons_succ, List.getElem_cons_zero, Act.put, List.setIfInBounds_toArray, List.set_cons_zero, List.set_cons_succ]))
          refine plan_nil ?_
          go_wp2
          go_ret
          exact ⟨by rw [HN.out]; rfl, HM.out.drew⟩
    · obtain rfl : j = n := by omega
      have HK : Hid (oneT r = (adrGood r.v6 r.b && (adrZero r.b || adrGroup r.v6 r.b) && decide (0 ≤ r.vlan ∧ r.vlan ≤ 4094) && decide (0 ≤ r.root ∧ r.root ≤ 65535) && decide (1 ≤ j ∧ j ≤ 255))) := Lib.hid (by
        rw [oneT_all r fun t ht => HALL.out t (by have := HL.out; omega), ← HL.out])
      clear HALL hj HG hlt HA0 HM0 HMM
      obtain ⟨G, hG⟩ : ∃ G, G = adrGood r.v6 r.b := ⟨_, rfl⟩
      obtain ⟨Z, hZ⟩ : ∃ Z, Z = adrZero r.b := ⟨_, rfl⟩
      obtain ⟨R, hR⟩ : ∃ R, R = adrGroup r.v6 r.b := ⟨_, rfl⟩
      have HHG := Lib.hid hG
      have HHZ := Lib.hid hZ
      have HHR := Lib.hid hR
      rw [← hG, ← hZ, ← hR] at HK
      clear hG hZ hR
      go_wp2_with (refine wpList_load_blk rfl _ _ rfl pb 1 rfl 28 C (adrC r.v6 r.b) _ HA.out HCS.out Tryz.underlying25 rfl HS.out ?_)
      refine (refAGood_any _ _ HO.out.1 _).mono ?_; rintro e w1 ⟨rfl, hm⟩
      rw [← HHG.out]
      have HA1 := Lib.hid (HA.out.keep hm fun f => f)
      have HM1 := Lib.hid (HM.out.trans hm fun _ f => f.elim)
      clear hm HA HM c19
      cases G with
      | false =>
        go_wp2
        go_ret
        exact ⟨by rw [HK.out]; rfl, HM1.out⟩
      | true =>
        go_wp2_with (refine wpList_load_blk rfl _ _ rfl pb 1 rfl 28 C (adrC r.v6 r.b) _ HA1.out HCS.out Tryz.underlying25 rfl HS.out ?_)
        refine (refAZero_any _ _ HO.out.1 _).mono ?_; rintro e w2 ⟨rfl, hm⟩
        rw [← HHZ.out]
        have HA2 := Lib.hid (HA1.out.keep hm fun f => f)
        have HM2 := Lib.hid (HM1.out.trans hm fun _ f => f.elim)
        clear hm HA1 HM1
        cases Z with
        | true =>
          have c0 : w2.cell? ⟨pb, 0, none⟩ = some (.int .i64 r.vlan) := HA2.out.cell HC0.out
          have c18 : w2.cell? ⟨pb, 18, none⟩ = some (.int .i64 r.root) := HA2.out.cell HC18.out
          have c19 : w2.cell? ⟨pb, 19, none⟩ = some (.slice ad j cp) := HA2.out.cell HC19.out
          by_cases hv : 0 ≤ r.vlan
          · have d_hv : decide (0 ≤ r.vlan) = true := decide_eq_true hv
            by_cases hv2 : r.vlan < 4095
            · have d_hv2 : decide (r.vlan < 4095) = true := decide_eq_true hv2
              by_cases hr : 0 ≤ r.root
              · have d_hr : decide (0 ≤ r.root) = true := decide_eq_true hr
                by_cases hr2 : r.root < 65536
                · have d_hr2 : decide (r.root < 65536) = true := decide_eq_true hr2
                  by_cases hl : 0 < j
                  · have d_hl : decide (0 < j) = true := decide_eq_true hl
                    by_cases hl2 : j < 256
                    · have d_hl2 : decide ((j : Int) < 256) = true := decide_eq_true (by omega)
                      have HX : Hid (oneT r = true) := Lib.hid (by rw [HK.out, decide_eq_true (show 0 ≤ r.vlan ∧ r.vlan ≤ 4094 by omega), decide_eq_true (show 0 ≤ r.root ∧ r.root ≤ 65535 by omega), decide_eq_true (show 1 ≤ j ∧ j ≤ 255 by omega)]; rfl)
                      go_wp2
                      go_ret
                      exact ⟨by rw [HX.out]; rfl, HM2.out⟩
                    · have d_hl2 : decide ((j : Int) < 256) = false := decide_eq_false (by omega)
                      have HX : Hid (oneT r = false) := Lib.hid (by rw [HK.out, decide_eq_false (show ¬ (1 ≤ j ∧ j ≤ 255) by omega)]; simp)
                      go_wp2
                      go_ret
                      exact ⟨by rw [HX.out]; rfl, HM2.out⟩
                  · have d_hl : decide (0 < j) = false := decide_eq_false hl
                    have HX : Hid (oneT r = false) := Lib.hid (by rw [HK.out, decide_eq_false (show ¬ (1 ≤ j ∧ j ≤ 255) by omega)]; simp)
                    go_wp2
                    go_ret
                    exact ⟨by rw [HX.out]; rfl, HM2.out⟩
                · have d_hr2 : decide (r.root < 65536) = false := decide_eq_false hr2
                  have HX : Hid (oneT r = false) := Lib.hid (by rw [HK.out, decide_eq_false (show ¬ (0 ≤ r.root ∧ r.root ≤ 65535) by omega)]; simp)
                  go_wp2
                  go_ret
                  exact ⟨by rw [HX.out]; rfl, HM2.out⟩
              · have d_hr : decide (0 ≤ r.root) = false := decide_eq_false hr
                have HX : Hid (oneT r = false) := Lib.hid (by rw [HK.out, decide_eq_false (show ¬ (0 ≤ r.root ∧ r.root ≤ 65535) by omega)]; simp)
                go_wp2
                go_ret
                exact ⟨by rw [HX.out]; rfl, HM2.out⟩
            · have d_hv2 : decide (r.vlan < 4095) = false := decide_eq_false hv2
              have HX : Hid (oneT r = false) := Lib.hid (by rw [HK.out, decide_eq_false (show ¬ (0 ≤ r.vlan ∧ r.vlan ≤ 4094) by omega)]; simp)
              go_wp2
              go_ret
              exact ⟨by rw [HX.out]; rfl, HM2.out⟩
          · have d_hv : decide (0 ≤ r.vlan) = false := decide_eq_false hv
            have HX : Hid (oneT r = false) := Lib.hid (by rw [HK.out, decide_eq_false (show ¬ (0 ≤ r.vlan ∧ r.vlan ≤ 4094) by omega)]; simp)
            go_wp2
            go_ret
            exact ⟨by rw [HX.out]; rfl, HM2.out⟩
        | false =>
          go_wp2_with (refine wpList_load_blk rfl _ _ rfl pb 1 rfl 28 C (adrC r.v6 r.b) _ HA2.out HCS.out Tryz.underlying25 rfl HS.out ?_)
          refine (refAGroup_any _ _ HO.out.1 _).mono ?_; rintro e w3 ⟨rfl, hm⟩
          rw [← HHR.out]
          have HA3 := Lib.hid (HA2.out.keep hm fun f => f)
          have HM3 := Lib.hid (HM2.out.trans hm fun _ f => f.elim)
          clear hm HA2 HM2
          cases R with
          | false =>
            go_wp2
            go_ret
            exact ⟨by rw [HK.out]; rfl, HM3.out⟩
          | true =>
            have c0 : w3.cell? ⟨pb, 0, none⟩ = some (.int .i64 r.vlan) := HA3.out.cell HC0.out
            have c18 : w3.cell? ⟨pb, 18, none⟩ = some (.int .i64 r.root) := HA3.out.cell HC18.out
            have c19 : w3.cell? ⟨pb, 19, none⟩ = some (.slice ad j cp) := HA3.out.cell HC19.out
            by_cases hv : 0 ≤ r.vlan
            · have d_hv : decide (0 ≤ r.vlan) = true := decide_eq_true hv
              by_cases hv2 : r.vlan < 4095
              · have d_hv2 : decide (r.vlan < 4095) = true := decide_eq_true hv2
                by_cases hr : 0 ≤ r.root
                · have d_hr : decide (0 ≤ r.root) = true := decide_eq_true hr
                  by_cases hr2 : r.root < 65536
                  · have d_hr2 : decide (r.root < 65536) = true := decide_eq_true hr2
                    by_cases hl : 0 < j
                    · have d_hl : decide (0 < j) = true := decide_eq_true hl
                      by_cases hl2 : j < 256
                      · have d_hl2 : decide ((j : Int) < 256) = true := decide_eq_true (by omega)
                        have HX : Hid (oneT r = true) := Lib.hid (by rw [HK.out, decide_eq_true (show 0 ≤ r.vlan ∧ r.vlan ≤ 4094 by omega), decide_eq_true (show 0 ≤ r.root ∧ r.root ≤ 65535 by omega), decide_eq_true (show 1 ≤ j ∧ j ≤ 255 by omega)]; rfl)
                        go_wp2
                        go_ret
                        exact ⟨by rw [HX.out]; rfl, HM3.out⟩
                      · have d_hl2 : decide ((j : Int) < 256) = false := decide_eq_false (by omega)
                        have HX : Hid (oneT r = false) := Lib.hid (by rw [HK.out, decide_eq_false (show ¬ (1 ≤ j ∧ j ≤ 255) by omega)]; simp)
                        go_wp2
                        go_ret
                        exact ⟨by rw [HX.out]; rfl, HM3.out⟩
                    · have d_hl : decide (0 < j) = false := decide_eq_false hl
                      have HX : Hid (oneT r = false) := Lib.hid (by rw [HK.out, decide_eq_false (show ¬ (1 ≤ j ∧ j ≤ 255) by omega)]; simp)
                      go_wp2
                      go_ret
                      exact ⟨by rw [HX.out]; rfl, HM3.out⟩
                  · have d_hr2 : decide (r.root < 65536) = false := decide_eq_false hr2
                    have HX : Hid (oneT r = false) := Lib.hid (by rw [HK.out, decide_eq_false (show ¬ (0 ≤ r.root ∧ r.root ≤ 65535) by omega)]; simp)
                    go_wp2
                    go_ret
                    exact ⟨by rw [HX.out]; rfl, HM3.out⟩
                · have d_hr : decide (0 ≤ r.root) = false := decide_eq_false hr
                  have HX : Hid (oneT r = false) := Lib.hid (by rw [HK.out, decide_eq_false (show ¬ (0 ≤ r.root ∧ r.root ≤ 65535) by omega)]; simp)
                  go_wp2
                  go_ret
                  exact ⟨by rw [HX.out]; rfl, HM3.out⟩
              · have d_hv2 : decide (r.vlan < 4095) = false := decide_eq_false hv2
                have HX : Hid (oneT r = false) := Lib.hid (by rw [HK.out, decide_eq_false (show ¬ (0 ≤ r.vlan ∧ r.vlan ≤ 4094) by omega)]; simp)
                go_wp2
                go_ret
                exact ⟨by rw [HX.out]; rfl, HM3.out⟩
            · have d_hv : decide (0 ≤ r.vlan) = false := decide_eq_false hv
              have HX : Hid (oneT r = false) := Lib.hid (by rw [HK.out, decide_eq_false (show ¬ (0 ≤ r.vlan ∧ r.vlan ≤ 4094) by omega)]; simp)
              go_wp2
              go_ret
              exact ⟨by rw [HX.out]; rfl, HM3.out⟩
end Go.Proofs.YtegjamjognpdkaaGreat
namespace Go.Proofs.YtegjamjognpdkaaGreat
open Go.RowKit
set_option linter.unusedVariables false
set_option linter.unusedSimpArgs false
set_option maxRecDepth 100000 in
set_option maxHeartbeats 2000000 in
theorem refCompare_any (r r' : TRow) (sv sv' : Value) (hb : adrOk r.b) (hb' : adrOk r'.b) (w : World) :
    Calls Tryz.prog 43 #[.agg (r.c sv).toArray, .agg (r'.c sv').toArray] w fun e w' => e = .returned (.int .i64 (cmpT r r')) ∧ Mod (fun _ => False) w w' := by
  have hA := Blk.alloc (Blk.new w 28 (r.c sv)) (.cells (r'.c sv').toArray 28 (0, 0))
  have hB := Blk.new (w.alloc (.cells (r.c sv).toArray 28 (0, 0))) 28 (r'.c sv')
  have hm : Mod (fun _ => False) w ((w.alloc (.cells (r.c sv).toArray 28 (0, 0))).alloc (.cells (r'.c sv').toArray 28 (0, 0))) := ((Mod.refl _ _).alloc _).alloc _
  rw [show (w.alloc (.cells (r.c sv).toArray 28 (0, 0))).heap.size = w.heap.size + 1 by simp] at hB
  have HO := Lib.hid hb
  have HO' := Lib.hid hb'
  have HS : Hid ((Tryz.prog.info? 25).map (·.size) = some (adrC r.v6 r.b).length) := Lib.hid (by rw [adrC_len, hb.1]; exact adrSz)
  have HS' : Hid ((Tryz.prog.info? 25).map (·.size) = some (adrC r'.v6 r'.b).length) := Lib.hid (by rw [adrC_len, hb'.1]; exact adrSz)
  have HCS := Lib.hid (rowC_adrs' r sv hb.1)
  have HCS' := Lib.hid (rowC_adrs' r' sv' hb'.1)
  obtain ⟨C, hC⟩ : ∃ C, C = r.c sv := ⟨_, rfl⟩
  obtain ⟨C', hC'⟩ : ∃ C', C' = r'.c sv' := ⟨_, rfl⟩
  have k0 : C[0]? = some (.int .i64 r.vlan) := by rw [hC]; exact rowC_0 ..
  have k0' : C'[0]? = some (.int .i64 r'.vlan) := by rw [hC']; exact rowC_0 ..
  have h18 : C[18]? = some (.int .i64 r.root) := by rw [hC]; exact rowC_18 _ _ _ _ _ hb.1
  have h18' : C'[18]? = some (.int .i64 r'.root) := by rw [hC']; exact rowC_18 _ _ _ _ _ hb'.1
  rw [← hC, ← hC'] at hA hB hm ⊢
  rw [← hC] at HCS
  rw [← hC'] at HCS'
  have H18 := Lib.hid h18
  have H18' := Lib.hid h18'
  have HA := Lib.hid hA
  have HB := Lib.hid hB
  have HM := Lib.hid hm
  clear hC hC' hb hb' hA hB hm h18 h18'
  rcases Int.lt_trichotomy r.vlan r'.vlan with hv | hv | hv
  · have HX : Hid (cmpT r r' = -1) := Lib.hid (by unfold cmpT or3; rw [show cmpI r.vlan r'.vlan = -1 from if_pos hv]; rfl)
    have hne : ¬ r.vlan = r'.vlan := by omega
    have hd : (r.vlan != r'.vlan) = true := by simp [hne]
    go_enter Tryz.func43, Tryz.ntmps43
    go_wp2
    go_ret
    exact ⟨by rw [HX.out]; rfl, HM.out⟩
  · have HV := Lib.hid hv
    have HX : Hid (cmpT r r' = or3 0 (cmpA r.v6 r.b r'.v6 r'.b) (cmpI r.root r'.root)) := Lib.hid (by unfold cmpT; rw [show cmpI r.vlan r'.vlan = 0 by unfold cmpI; rw [hv]; simp])
    have hd : (r.vlan != r'.vlan) = false := by simp [hv]
    clear hv
    go_enter Tryz.func43, Tryz.ntmps43
    go_wp2_with (first | (refine wpList_load_blk rfl _ _ rfl w.heap.size 1 rfl 28 C (adrC r.v6 r.b) _ HA.out HCS.out Tryz.underlying25 rfl HS.out ?_) | (refine wpList_load_blk rfl _ _ rfl (w.heap.size + 1) 1 rfl 28 C' (adrC r'.v6 r'.b) _ HB.out HCS'.out Tryz.underlying25 rfl HS'.out ?_))
    refine (refACmp_any _ _ _ _ HO.out.1 HO'.out.1 _).mono ?_; rintro e w1 ⟨rfl, hm⟩
    obtain ⟨c, hc⟩ : ∃ c, c = cmpA r.v6 r.b r'.v6 r'.b := ⟨_, rfl⟩
    rw [← hc]
    rw [← hc] at HX
    have HM1 := Lib.hid (HM.out.trans hm fun _ f => f.elim)
    have c18 : w1.cell? ⟨w.heap.size, 18, none⟩ = some (.int .i64 r.root) := (HA.out.keep hm fun f => f).cell H18.out
    have c18' : w1.cell? ⟨w.heap.size + 1, 18, none⟩ = some (.int .i64 r'.root) := (HB.out.keep hm fun f => f).cell H18'.out
    clear hm hc
    by_cases h0 : c = 0
    · subst h0
      rcases Int.lt_trichotomy r.root r'.root with hr | hr | hr
      · have HY : Hid (cmpT r r' = -1) := Lib.hid (by rw [HX.out]; unfold or3; rw [show cmpI r.root r'.root = -1 from if_pos hr]; rfl)
        go_wp2
        go_ret
        exact ⟨by rw [HY.out]; rfl, HM1.out⟩
      · have HY : Hid (cmpT r r' = 0) := Lib.hid (by rw [HX.out]; unfold or3; rw [show cmpI r.root r'.root = 0 by unfold cmpI; rw [hr]; simp]; rfl)
        have hn1 : decide (r.root < r'.root) = false := decide_eq_false (by omega)
        have hn2 : decide (r'.root < r.root) = false := decide_eq_false (by omega)
        have hn3 : ¬ r.root < r'.root := by omega
        have hn4 : ¬ r'.root < r.root := by omega
        clear hr
        go_wp2
        go_ret
        exact ⟨by rw [HY.out]; rfl, HM1.out⟩
      · have HY : Hid (cmpT r r' = 1) := Lib.hid (by rw [HX.out]; unfold or3; rw [show cmpI r.root r'.root = 1 by unfold cmpI; rw [if_neg (by omega), if_pos hr]]; rfl)
        have hn3 : ¬ r.root < r'.root := by omega
        go_wp2
        go_ret
        exact ⟨by rw [HY.out]; rfl, HM1.out⟩
    · have HY : Hid (cmpT r r' = c) := Lib.hid (by rw [HX.out]; unfold or3; rw [if_neg (by simp), if_pos h0])
      have hd0 : (c != 0) = true := by simp [h0]
      go_wp2
      go_ret
      exact ⟨by rw [HY.out]; rfl, HM1.out⟩
  · have HX : Hid (cmpT r r' = 1) := Lib.hid (by unfold cmpT or3; rw [show cmpI r.vlan r'.vlan = 1 by unfold cmpI; rw [if_neg (by omega), if_pos hv]]; rfl)
    have hne : ¬ r.vlan = r'.vlan := by omega
    have hd : (r.vlan != r'.vlan) = true := by simp [hne]
    have hnl : ¬ r.vlan < r'.vlan := by omega
    go_enter Tryz.func43, Tryz.ntmps43
    go_wp2
    go_ret
    exact ⟨by rw [HX.out]; rfl, HM.out⟩
end Go.Proofs.YtegjamjognpdkaaGreat
namespace Go.Proofs.YtegjamjognpdkaaGreat
open Go.RowKit
set_option linter.unusedVariables false
set_option linter.unusedSimpArgs false
set_option maxRecDepth 100000 in
set_option maxHeartbeats 2000000 in
theorem refGood_any (v : Value) (rs : List TRow) (sv : Nat → Value) (w : World) (h : RowsAt w v rs sv) :
    Calls Tryz.prog 23 #[v] w fun e w' => e = .returned (.bool (goodT rs)) ∧ Mod (fun _ => False) w w' := by
  obtain ⟨⟨ad, cp, rfl, hnc, hcm, hg⟩, hok, hnx⟩ := h
  unfold maxLen at hcm
  have HG := Lib.hid hg
  have HOK := Lib.hid hok
  have HNX := Lib.hid hnx
  have HRS := Lib.hid rowSz
  obtain ⟨n, hn⟩ : ∃ n, n = rs.length := ⟨_, rfl⟩
  rw [← hn] at HG hnc ⊢
  have HL := Lib.hid hn
  clear hg hok hnx hn
  go_enter Tryz.func23, Tryz.ntmps23
  go_wp2_with fail
  go_loopw [3] (fun i wr => ∃ j : Nat, j ≤ n ∧ i = .int .i64 (j : Int) ∧ Mod (fun _ => False) w wr ∧ ∀ t, t < j → stepT rs t = true) (fun i _ => n - (intOf i).toNat)
  case atStart => exact ⟨0, Nat.zero_le _, rfl, Mod.refl _ _, fun t ht => by omega⟩
  case round =>
    obtain ⟨j, hj, rfl, hm, hall⟩ := hrel
    have HM := Lib.hid hm
    have HALL := Lib.hid hall
    clear hm hall
    by_cases hlt : j < n
    · obtain ⟨g, o, rfl, hcg⟩ := HG.out (by omega)
      obtain ⟨r, hr⟩ : ∃ r, rs[j]? = some r := ⟨_, List.getElem?_eq_getElem (by have := HL.out; omega)⟩
      have HR := Lib.hid hr
      have HRA := Lib.hid (keepRange HM.out.drew (rows_get hcg HOK.out hr))
      have HCG := Lib.hid hcg
      have HO := Lib.hid (HOK.out r (List.mem_of_getElem? hr))
      have HN := Lib.hid ((HNX.out j r hr).keep0 HM.out.drew)
      have HRZ : Hid ((Tryz.prog.info? 28).map (·.size) = some (r.c (sv j)).length) := Lib.hid (by rw [TRow.c, rowC_len _ _ _ _ _ HO.out.1]; exact HRS.out)
      obtain ⟨G, hG⟩ : ∃ G, G = oneT r := ⟨_, rfl⟩
      have HHG := Lib.hid hG
      clear hr hcg hG
      go_wp2_with fail
      by_cases h0 : j = 0
      · have HJ := Lib.hid h0
        have hj0 : ¬ 0 < j := by omega
        have hj0d : decide (0 < j) = false := decide_eq_false hj0
        clear h0
        refine wp_region_plan [] [(0, 0), (1, 0), (2, 0), (3, 1), (4, 2), (5, 0), (6, 0), (7, 0), (8, 0), (9, 0), (10, 0), (11, 0), (12, 0), (13, 0), (14, 1), (15, 0), (16, 0), (17, 0), (18, 1), (19, 2), (20, 0), (21, 0), (22, 0)] (fun w' : World => w'.rangeAt g (o + j * 20) (r.c (sv j)) ∧ True) (by kernel_rfl) (by kernel_rfl) (fun d _ _ _ _ h => by cases d <;> exact h) ?_
        repeat (first | (refine plan_skip rfl rfl ?_; simp only [List.getElem_toArray, List.getElem_cons_succ, List.getElem_cons_zero, Act.put, List.setIfInBounds_toArray, List.set_cons_zero, List.set_cons_succ]) | (refine plan_pass2 rfl rfl ?_; simp only [List.getElem_toArray, List.getElem_cons_succ, List.getElem_cons_zero, Act.put, List.setIfInBounds_toArray, List.set_cons_zero, List.set_cons_succ]) | (refine plan_pass3 rfl rfl ?_; simp only [List.getElem_toArray, List.getElem_cons_succ, List.getElem_cons_zero, Act.put, List.setIfInBounds_toArray, List.set_cons_zero, List.set_cons_succ]) | (refine plan_take (v := ?_) rfl rfl ?_ ?_; rotate_left; (focus (intro w0; go_simp; try with_reducible rfl)); simp only [List.getElem_toArray, List.getElem_cons_succ, List.getElem_cons_zero, Act.put, List.setIfInBounds_toArray, List.set_cons_zero, List.set_cons_succ]) | fail )
        (refine plan_held (v := .agg (r.c (sv j)).toArray) rfl rfl ⟨HRA.out, trivial⟩ (fun w0 h0 => exec_load_mid _ _ rfl g (o + j * 20) rfl (r.c (sv j)) _ w0 h0.1 Tryz.underlying28 rfl HRZ.out) ?_; try simp only [List.getElem_toArray, List.getElem_cons_succ, List.getElem_cons_zero, Act.put, List.setIfInBounds_toArray, List.set_cons_zero, List.set_cons_succ])
        repeat (first | (refine plan_skip rfl rfl ?_; simp only [List.getElem_toArray, List.getElem_cons_succ, List.getElem_cons_zero, Act.put, List.setIfInBounds_toArray, List.set_cons_zero, List.set_cons_succ]) | (refine plan_pass2 rfl rfl ?_; simp only [List.getElem_toArray, List.getElem_cons_succ, List.getElem_cons_zero, Act.put, List.setIfInBounds_toArray, List.set_cons_zero, List.set_cons_succ]) | (refine plan_pass3 rfl rfl ?_; simp only [List.getElem_toArray, List.getElem_cons_succ, List.getElem_cons_zero, Act.put, List.setIfInBounds_toArray, List.set_cons_zero, List.set_cons_succ]) | (refine plan_take (v := ?_) rfl rfl ?_ ?_; rotate_left; (focus (intro w0; go_simp; try with_reducible rfl)); simp only [List.getElem_toArray, List.getElem_cons_succ, List.getElem_cons_zero, Act.put, List.setIfInBounds_toArray, List.set_cons_zero, List.set_cons_succ]) | fail )
        (refine plan_do rfl rfl fun K hK => ?_; try simp only [List.getElem_toArray, List.getElem_cons_succ, List.getElem_cons_zero])
        go_simp
        refine (refOne_any r (sv j) HO.out _ HN.out).mono ?_; rintro e w4 ⟨rfl, hm⟩
        rw [← HHG.out]
        have HB4 := Lib.hid (keepRange hm HRA.out)
        have HM5 := Lib.hid (HM.out.drew.trans hm fun _ f => f.elim)
        refine hK _ _ ⟨HB4.out, trivial⟩ ?_
        clear hK K hm
        cases G with
        | true =>
          have HS := Lib.hid (stepT_0 rs r (HJ.out ▸ HR.out) HHG.out.symm)
          try simp only [List.getElem_toArray, List.getElem_cons_succ, List.getElem_cons_zero, Act.put, List.setIfInBounds_toArray, List.set_cons_zero, List.set_cons_succ]
          repeat (first | (refine plan_skip rfl rfl ?_; simp only [List.getElem_toArray, List.getElem_cons_succ, List.getElem_cons_zero, Act.put, List.setIfInBounds_toArray, List.set_cons_zero, List.set_cons_succ]) | (refine plan_pass2 rfl rfl ?_; simp only [List.getElem_toArray, List.getElem_cons_succ, List.getElem_cons_zero, Act.put, List.setIfInBounds_toArray, List.set_cons_zero, List.set_cons_succ]) | (refine plan_pass3 rfl rfl ?_; simp only [List.getElem_toArray, List.getElem_cons_succ, List.getElem_cons_zero, Act.put, List.setIfInBounds_toArray, List.set_cons_zero, List.set_cons_succ]) | (refine plan_take (v := ?_) rfl rfl ?_ ?_; rotate_left; (focus (intro w0; go_simp; try with_reducible rfl)); simp only [List.getElem_toArray, List.getElem_cons_succ, List.getElem_cons_zero, Act.put, List.setIfInBounds_toArray, List.set_cons_zero, List.set_cons_succ]) | (refine plan_held (v := ?_) rfl rfl ⟨HB4.out, trivial⟩ ?_ ?_; rotate_left; (focus (intro w0 hSw; (try dsimp only at hSw); go_split_ands; go_simp; try with_reducible rfl)); simp only [List.getElem_toArray, List.getElem_cons_succ, List.getElem_cons_zero, Act.put, List.setIfInBounds_toArray, List.set_cons_zero, List.set_cons_succ])  | (refine plan_skip1 rfl rfl ⟨HB4.out, trivial⟩ ?_; simp only [List.getElem_toArray, List.getElem_cons_succ, List.getElem_cons_zero, Act.put, List.setIfInBounds_toArray, List.set_cons_zero, List.set_cons_succ]))
          refine plan_nil ?_
          go_wp2
          go_roundw
          case rel => exact ⟨j + 1, by omega, by go_num, HM5.out, fun t ht => by have := HJ.out; rw [show t = 0 by omega]; exact HS.out⟩
          case measure => simp [intOf]; omega
        | false =>
          have HS := Lib.hid (stepT_no rs j r HR.out HHG.out.symm)
          try simp only [List.getElem_toArray, List.getElem_cons_succ, List.getElem_cons_zero, Act.put, List.setIfInBounds_toArray, List.set_cons_zero, List.set_cons_succ]
          repeat (first | (refine plan_skip rfl rfl ?_; simp only [List.getElem_toArray, List.getElem_cons_succ, List.getElem_cons_zero, Act.put, List.setIfInBounds_toArray, List.set_cons_zero, List.set_cons_succ]) | (refine plan_pass2 rfl rfl ?_; simp only [List.getElem_toArray, List.getElem_cons_succ, List.getElem_cons_zero, Act.put, List.setIfInBounds_toArray, List.set_cons_zero, List.set_cons_succ]) | (refine plan_pass3 rfl rfl ?_; simp only [List.getElem_toArray, List.getElem_cons_succ, List.getElem_cons_zero, Act.put, List.setIfInBounds_toArray, List.set_cons_zero, List.set_cons_succ]) | (refine plan_take (v := ?_) rfl rfl ?_ ?_; rotate_left; (focus (intro w0; go_simp; try with_reducible rfl)); simp only [List.getElem_toArray, List.getElem_cons_succ, List.getElem_cons_zero, Act.put, List.setIfInBounds_toArray, List.set_cons_zero, List.set_cons_succ]) | (refine plan_held (v := ?_) rfl rfl ⟨HB4.out, trivial⟩ ?_ ?_; rotate_left; (focus (intro w0 hSw; (try dsimp only at hSw); go_split_ands; go_simp; try with_reducible rfl)); simp only [List.getElem_toArray, List.getElem_cons_succ, List.getElem_cons_zero, Act.put, List.setIfInBounds_toArray, List.set_cons_zero, List.set_cons_succ])  | (refine plan_skip1 rfl rfl ⟨HB4.out, trivial⟩ ?_; simp only [List.getElem_toArray, List.getElem_cons_succ, List.getElem_cons_zero, Act.put, List.setIfInBounds_toArray, List.set_cons_zero, List.set_cons_succ]))
          refine plan_nil ?_
          go_wp2
          go_ret
          exact ⟨by rw [HS.out]; rfl, HM5.out⟩
      · obtain ⟨k, hjk⟩ : ∃ k, j = k + 1 := ⟨j - 1, by omega⟩
        have HJK := Lib.hid hjk
        obtain ⟨q, hq⟩ : ∃ q, rs[k]? = some q := ⟨_, List.getElem?_eq_getElem (by have := HL.out; omega)⟩
        have HQ := Lib.hid hq
        have HQO := Lib.hid (HOK.out q (List.mem_of_getElem? hq))
        have HQA := Lib.hid (keepRange HM.out.drew (rows_get HCG.out HOK.out hq))
        have HQZ : Hid ((Tryz.prog.info? 28).map (·.size) = some (q.c (sv k)).length) := Lib.hid (by rw [TRow.c, rowC_len _ _ _ _ _ HQO.out.1]; exact HRS.out)
        have ek : IntKind.i64.wrap ((j : Int) - 1) = (k : Int) := by rw [show (j : Int) - 1 = (k : Int) by omega]; exact IntWalk.i64_in _ (by omega)
        have hk0 : 0 < j := by omega
        have hkn : k < n := by omega
        clear hq hjk h0
        refine wp_region_plan [] [(0, 0), (1, 0), (2, 0), (3, 1), (4, 2), (5, 0), (6, 0), (7, 0), (8, 0), (9, 0), (10, 0), (11, 0), (12, 0), (13, 0), (14, 1), (15, 0), (16, 0), (17, 0), (18, 1), (19, 2), (20, 0), (21, 0), (22, 0)] (fun w' : World => w'.rangeAt g (o + j * 20) (r.c (sv j)) ∧ w'.rangeAt g (o + k * 20) (q.c (sv k))) (by kernel_rfl) (by kernel_rfl) (fun d _ _ _ _ h => by cases d <;> exact h) ?_
        repeat (first | (refine plan_skip rfl rfl ?_; simp only [List.getElem_toArray, List.getElem_cons_succ, List.getElem_cons_zero, Act.put, List.setIfInBounds_toArray, List.set_cons_zero, List.set_cons_succ]) | (refine plan_pass2 rfl rfl ?_; simp only [List.getElem_toArray, List.getElem_cons_succ, List.getElem_cons_zero, Act.put, List.setIfInBounds_toArray, List.set_cons_zero, List.set_cons_succ]) | (refine plan_pass3 rfl rfl ?_; simp only [List.getElem_toArray, List.getElem_cons_succ, List.getElem_cons_zero, Act.put, List.setIfInBounds_toArray, List.set_cons_zero, List.set_cons_succ]) | (refine plan_take (v := ?_) rfl rfl ?_ ?_; rotate_left; (focus (intro w0; go_simp; try with_reducible rfl)); simp only [List.getElem_toArray, List.getElem_cons_succ, List.getElem_cons_zero, Act.put, List.setIfInBounds_toArray, List.set_cons_zero, List.set_cons_succ]) | fail )
        (refine plan_held (v := .agg (r.c (sv j)).toArray) rfl rfl ⟨HRA.out, HQA.out⟩ (fun w0 h0 => exec_load_mid _ _ rfl g (o + j * 20) rfl (r.c (sv j)) _ w0 h0.1 Tryz.underlying28 rfl HRZ.out) ?_; try simp only [List.getElem_toArray, List.getElem_cons_succ, List.getElem_cons_zero, Act.put, List.setIfInBounds_toArray, List.set_cons_zero, List.set_cons_succ])
        repeat (first | (refine plan_skip rfl rfl ?_; simp only [List.getElem_toArray, List.getElem_cons_succ, List.getElem_cons_zero, Act.put, List.setIfInBounds_toArray, List.set_cons_zero, List.set_cons_succ]) | (refine plan_pass2 rfl rfl ?_; simp only [List.getElem_toArray, List.getElem_cons_succ, List.getElem_cons_zero, Act.put, List.setIfInBounds_toArray, List.set_cons_zero, List.set_cons_succ]) | (refine plan_pass3 rfl rfl ?_; simp only [List.getElem_toArray, List.getElem_cons_succ, List.getElem_cons_zero, Act.put, List.setIfInBounds_toArray, List.set_cons_zero, List.set_cons_succ]) | (refine plan_take (v := ?_) rfl rfl ?_ ?_; rotate_left; (focus (intro w0; go_simp; try with_reducible rfl)); simp only [List.getElem_toArray, List.getElem_cons_succ, List.getElem_cons_zero, Act.put, List.setIfInBounds_toArray, List.set_cons_zero, List.set_cons_succ]) | fail )
        (refine plan_do rfl rfl fun K hK => ?_; try simp only [List.getElem_toArray, List.getElem_cons_succ, List.getElem_cons_zero])
        go_simp
        refine (refOne_any r (sv j) HO.out _ HN.out).mono ?_; rintro e w4 ⟨rfl, hm⟩
        rw [← HHG.out]
        have HB4 := Lib.hid (keepRange hm HRA.out)
        have HQ4 := Lib.hid (keepRange hm HQA.out)
        have HM5 := Lib.hid (HM.out.drew.trans hm fun _ f => f.elim)
        refine hK _ _ ⟨HB4.out, HQ4.out⟩ ?_
        clear hK K hm HQA HRA
        cases G with
        | false =>
          have HS := Lib.hid (stepT_no rs j r HR.out HHG.out.symm)
          try simp only [List.getElem_toArray, List.getElem_cons_succ, List.getElem_cons_zero, Act.put, List.setIfInBounds_toArray, List.set_cons_zero, List.set_cons_succ]
          repeat (first | (refine plan_skip rfl rfl ?_; simp only [List.getElem_toArray, List.getElem_cons_succ, List.getElem_cons_zero, Act.put, List.setIfInBounds_toArray, List.set_cons_zero, List.set_cons_succ]) | (refine plan_pass2 rfl rfl ?_; simp only [List.getElem_toArray, List.getElem_cons_succ, List.getElem_cons_zero, Act.put, List.setIfInBounds_toArray, List.set_cons_zero, List.set_cons_succ]) | (refine plan_pass3 rfl rfl ?_; simp only [List.getElem_toArray, List.getElem_cons_succ, List.getElem_cons_zero, Act.put, List.setIfInBounds_toArray, List.set_cons_zero, List.set_cons_succ]) | (refine plan_take (v := ?_) rfl rfl ?_ ?_; rotate_left; (focus (intro w0; go_simp; try with_reducible rfl)); simp only [List.getElem_toArray, List.getElem_cons_succ, List.getElem_cons_zero, Act.put, List.setIfInBounds_toArray, List.set_cons_zero, List.set_cons_succ]) | (refine plan_held (v := ?_) rfl rfl ⟨HB4.out, HQ4.out⟩ ?_ ?_; rotate_left; (focus (intro w0 hSw; (try dsimp only at hSw); go_split_ands; go_simp; try with_reducible rfl)); simp only [List.getElem_toArray, List.getElem_cons_succ, List.getElem_cons_zero, Act.put, List.setIfInBounds_toArray, List.set_cons_zero, List.set_cons_succ])  | (refine plan_skip1 rfl rfl ⟨HB4.out, HQ4.out⟩ ?_; simp only [List.getElem_toArray, List.getElem_cons_succ, List.getElem_cons_zero, Act.put, List.setIfInBounds_toArray, List.set_cons_zero, List.set_cons_succ]))
          refine plan_nil ?_
          go_wp2
          go_ret
          exact ⟨by rw [HS.out]; rfl, HM5.out⟩
        | true =>
          try simp only [List.getElem_toArray, List.getElem_cons_succ, List.getElem_cons_zero, Act.put, List.setIfInBounds_toArray, List.set_cons_zero, List.set_cons_succ]
          repeat (first | (refine plan_skip rfl rfl ?_; simp only [List.getElem_toArray, List.getElem_cons_succ, List.getElem_cons_zero, Act.put, List.setIfInBounds_toArray, List.set_cons_zero, List.set_cons_succ]) | (refine plan_pass2 rfl rfl ?_; simp only [List.getElem_toArray, List.getElem_cons_succ, List.getElem_cons_zero, Act.put, List.setIfInBounds_toArray, List.set_cons_zero, List.set_cons_succ]) | (refine plan_pass3 rfl rfl ?_; simp only [List.getElem_toArray, List.getElem_cons_succ, List.getElem_cons_zero, Act.put, List.setIfInBounds_toArray, List.set_cons_zero, List.set_cons_succ]) | (refine plan_take (v := ?_) rfl rfl ?_ ?_; rotate_left; (focus (intro w0; go_simp; try with_reducible rfl)); simp only [List.getElem_toArray, List.getElem_cons_succ, List.getElem_cons_zero, Act.put, List.setIfInBounds_toArray, List.set_cons_zero, List.set_cons_succ]) | (refine plan_held (v := ?_) rfl rfl ⟨HB4.out, HQ4.out⟩ ?_ ?_; rotate_left; (focus (intro w0 hSw; (try dsimp only at hSw); go_split_ands; go_simp; try with_reducible rfl)); simp only [List.getElem_toArray, List.getElem_cons_succ, List.getElem_cons_zero, Act.put, List.setIfInBounds_toArray, List.set_cons_zero, List.set_cons_succ])  | (refine plan_skip1 rfl rfl ⟨HB4.out, HQ4.out⟩ ?_; simp only [List.getElem_toArray, List.getElem_cons_succ, List.getElem_cons_zero, Act.put, List.setIfInBounds_toArray, List.set_cons_zero, List.set_cons_succ]))
          (refine plan_held (v := .agg (q.c (sv k)).toArray) rfl rfl ⟨HB4.out, HQ4.out⟩ (fun w0 h0 => exec_load_mid _ _ rfl g (o + k * 20) rfl (q.c (sv k)) _ w0 h0.2 Tryz.underlying28 rfl HQZ.out) ?_; try simp only [List.getElem_toArray, List.getElem_cons_succ, List.getElem_cons_zero, Act.put, List.setIfInBounds_toArray, List.set_cons_zero, List.set_cons_succ])
          repeat (first | (refine plan_skip rfl rfl ?_; simp only [List.getElem_toArray, List.getElem_cons_succ, List.getElem_cons_zero, Act.put, List.setIfInBounds_toArray, List.set_cons_zero, List.set_cons_succ]) | (refine plan_pass2 rfl rfl ?_; simp only [List.getElem_toArray, List.getElem_cons_succ, List.getElem_cons_zero, Act.put, List.setIfInBounds_toArray, List.set_cons_zero, List.set_cons_succ]) | (refine plan_pass3 rfl rfl ?_; simp only [List.getElem_toArray, List.getElem_cons_succ, List.getElem_cons_zero, Act.put, List.setIfInBounds_toArray, List.set_cons_zero, List.set_cons_succ]) | (refine plan_take (v := ?_) rfl rfl ?_ ?_; rotate_left; (focus (intro w0; go_simp; try with_reducible rfl)); simp only [List.getElem_toArray, List.getElem_cons_succ, List.getElem_cons_zero, Act.put, List.setIfInBounds_toArray, List.set_cons_zero, List.set_cons_succ]) | (refine plan_held (v := ?_) rfl rfl ⟨HB4.out, HQ4.out⟩ ?_ ?_; rotate_left; (focus (intro w0 hSw; (try dsimp only at hSw); go_split_ands; go_simp; try with_reducible rfl)); simp only [List.getElem_toArray, List.getElem_cons_succ, List.getElem_cons_zero, Act.put, List.setIfInBounds_toArray, List.set_cons_zero, List.set_cons_succ])  | (refine plan_skip1 rfl rfl ⟨HB4.out, HQ4.out⟩ ?_; simp only [List.getElem_toArray, List.getElem_cons_succ, List.getElem_cons_zero, Act.put, List.setIfInBounds_toArray, List.set_cons_zero, List.set_cons_succ]))
          (refine plan_held (v := .agg (r.c (sv j)).toArray) rfl rfl ⟨HB4.out, HQ4.out⟩ (fun w0 h0 => exec_load_mid _ _ rfl g (o + j * 20) rfl (r.c (sv j)) _ w0 h0.1 Tryz.underlying28 rfl HRZ.out) ?_; try simp only [List.getElem_toArray, List.getElem_cons_succ, List.getElem_cons_zero, Act.put, List.setIfInBounds_toArray, List.set_cons_zero, List.set_cons_succ])
          repeat (first | (refine plan_skip rfl rfl ?_; simp only [List.getElem_toArray, List.getElem_cons_succ, List.getElem_cons_zero, Act.put, List.setIfInBounds_toArray, List.set_cons_zero, List.set_cons_succ]) | (refine plan_pass2 rfl rfl ?_; simp only [List.getElem_toArray, List.getElem_cons_succ, List.getElem_cons_zero, Act.put, List.setIfInBounds_toArray, List.set_cons_zero, List.set_cons_succ]) | (refine plan_pass3 rfl rfl ?_; simp only [List.getElem_toArray, List.getElem_cons_succ, List.getElem_cons_zero, Act.put, List.setIfInBounds_toArray, List.set_cons_zero, List.set_cons_succ]) | (refine plan_take (v := ?_) rfl rfl ?_ ?_; rotate_left; (focus (intro w0; go_simp; try with_reducible rfl)); simp only [List.getElem_toArray, List.getElem_cons_succ, List.getElem_cons_zero, Act.put, List.setIfInBounds_toArray, List.set_cons_zero, List.set_cons_succ]) | (refine plan_held (v := ?_) rfl rfl ⟨HB4.out, HQ4.out⟩ ?_ ?_; rotate_left; (focus (intro w0 hSw; (try dsimp only at hSw); go_split_ands; go_simp; try with_reducible rfl)); simp only [List.getElem_toArray, List.getElem_cons_succ, List.getElem_cons_zero, Act.put, List.setIfInBounds_toArray, List.set_cons_zero, List.set_cons_succ])  | (refine plan_skip1 rfl rfl ⟨HB4.out, HQ4.out⟩ ?_; simp only [List.getElem_toArray, List.getElem_cons_succ, List.getElem_cons_zero, Act.put, List.setIfInBounds_toArray, List.set_cons_zero, List.set_cons_succ]))
          (refine plan_do rfl rfl fun K hK => ?_; try simp only [List.getElem_toArray, List.getElem_cons_succ, List.getElem_cons_zero])
          go_simp
          refine (refCompare_any q r (sv k) (sv j) HQO.out HO.out _).mono ?_; rintro e w5 ⟨rfl, hm⟩
          have HB5 := Lib.hid (keepRange hm HB4.out)
          have HQ5 := Lib.hid (keepRange hm HQ4.out)
          have HM6 := Lib.hid (HM5.out.trans hm fun _ f => f.elim)
          refine hK _ _ ⟨HB5.out, HQ5.out⟩ ?_
          clear hK K hm HB4 HQ4 HM5
          by_cases hc : cmpT q r = -1
          · have HS : Hid (stepT rs j = true) := Lib.hid (by have e := HJK.out; rw [e]; exact stepT_s rs k r q (e ▸ HR.out) HQ.out HHG.out.symm hc)
            rw [hc]
            clear hc
            try simp only [List.getElem_toArray, List.getElem_cons_succ, List.getElem_cons_zero, Act.put, List.setIfInBounds_toArray, List.set_cons_zero, List.set_cons_succ]
            repeat (first | (refine plan_skip rfl rfl ?_; simp only [List.getElem_toArray, List.getElem_cons_succ, List.getElem_cons_zero, Act.put, List.setIfInBounds_toArray, List.set_cons_zero, List.set_cons_succ]) | (refine plan_pass2 rfl rfl ?_; simp only [List.getElem_toArray, List.getElem_cons_succ, List.getElem_cons_zero, Act.put, List.setIfInBounds_toArray, List.set_cons_zero, List.set_cons_succ]) | (refine plan_pass3 rfl rfl ?_; simp only [List.getElem_toArray, List.getElem_cons_succ, List.getElem_cons_zero, Act.put, List.setIfInBounds_toArray, List.set_cons_zero, List.set_cons_succ]) | (refine plan_take (v := ?_) rfl rfl ?_ ?_; rotate_left; (focus (intro w0; go_simp; try with_reducible rfl)); simp only [List.getElem_toArray, List.getElem_cons_succ, List.getElem_cons_zero, Act.put, List.setIfInBounds_toArray, List.set_cons_zero, List.set_cons_succ]) | (refine plan_held (v := ?_) rfl rfl ⟨HB5.out, HQ5.out⟩ ?_ ?_; rotate_left; (focus (intro w0 hSw; (try dsimp only at hSw); go_split_ands; go_simp; try with_reducible rfl)); simp only [List.getElem_toArray, List.getElem_cons_succ, List.getElem_cons_zero, Act.put, List.setIfInBounds_toArray, List.set_cons_zero, List.set_cons_succ])  | (refine plan_skip1 rfl rfl ⟨HB5.out, HQ5.out⟩ ?_; simp only [List.getElem_toArray, List.getElem_cons_succ, List.getElem_cons_zero, Act.put, List.setIfInBounds_toArray, List.set_cons_zero, List.set_cons_succ]))
            refine plan_nil ?_
            go_wp2
            go_roundw
            case rel => exact ⟨j + 1, by omega, by go_num, HM6.out, fun t ht => by rcases (show t < j ∨ t = j by omega) with h | rfl; exact HALL.out t h; exact HS.out⟩
            case measure => simp [intOf]; omega
          · have HS := Lib.hid (stepT_cmp rs k r q (by have e := HJK.out; exact e ▸ HR.out) HQ.out hc)
            obtain ⟨c, hcc⟩ : ∃ c, c = cmpT q r := ⟨_, rfl⟩
            have hc0 : (c != -1) = true := by simp [hcc, hc]
            rw [← hcc]
            clear hc hcc
            try simp only [List.getElem_toArray, List.getElem_cons_succ, List.getElem_cons_zero, Act.put, List.setIfInBounds_toArray, List.set_cons_zero, List.set_cons_succ]
            repeat (first | (refine plan_skip rfl rfl ?_; simp only [List.getElem_toArray, List.getElem_cons_succ, List.getElem_cons_zero, Act.put, List.setIfInBounds_toArray, List.set_cons_zero, List.set_cons_succ]) | (refine plan_pass2 rfl rfl ?_; simp only [List.getElem_toArray, List.getElem_cons_succ, List.getElem_cons_zero, Act.put, List.setIfInBounds_toArray, List.set_cons_zero, List.set_cons_succ]) | (refine plan_pass3 rfl rfl ?_; simp only [List.getElem_toArray, List.getElem_cons_succ, List.getElem_cons_zero, Act.put, List.setIfInBounds_toArray, List.set_cons_zero, List.set_cons_succ]) | (refine plan_take (v := ?_) rfl rfl ?_ ?_; rotate_left; (focus (intro w0; go_simp; try with_reducible rfl)); simp only [List.getElem_toArray, List.getElem_cons_succ, List.getElem_cons_zero, Act.put, List.setIfInBounds_toArray, List.set_cons_zero, List.set_cons_succ]) | (refine plan_held (v := ?_) rfl rfl ⟨HB5.out, HQ5.out⟩ ?_ ?_; rotate_left; (focus (intro w0 hSw; (try dsimp only at hSw); go_split_ands; go_simp; try with_reducible rfl)); simp only [List.getElem_toArray, List.getElem_cons_succ, List.getElem_cons_zero, Act.put, List.setIfInBounds_toArray, List.set_cons_zero, List.set_cons_succ])  | (refine plan_skip1 rfl rfl ⟨HB5.out, HQ5.out⟩ ?_; simp only [List.getElem_toArray, List.getElem_cons_succ, List.getElem_cons_zero, Act.put, List.setIfInBounds_toArray, List.set_cons_zero, List.set_cons_succ]))
            refine plan_nil ?_
            go_wp2
            go_ret
            exact ⟨by rw [HS.out]; rfl, HM6.out⟩
    · obtain rfl : j = n := by omega
      have HD : Hid (goodT rs = decide (j ≤ 2048)) := Lib.hid (by rw [goodT_yes rs fun t ht => HALL.out t (by have := HL.out; omega), ← HL.out])
      clear HALL hj hlt
      by_cases hd : j ≤ 2048
      · have hdi : decide ((j : Int) < 2049) = true := decide_eq_true (by omega)
        have HDD := Lib.hid (decide_eq_true hd)
        go_wp2
        go_ret
        exact ⟨by rw [HD.out, HDD.out]; rfl, HM.out⟩
      · have hdi : decide ((j : Int) < 2049) = false := decide_eq_false (by omega)
        have HDD := Lib.hid (decide_eq_false hd)
        go_wp2
        go_ret
        exact ⟨by rw [HD.out, HDD.out]; rfl, HM.out⟩
end Go.Proofs.YtegjamjognpdkaaGreat
