/- The reference of addresses: contracts. -/
import Derived.Test.YtegjamjognpdkaaAdrW
namespace Go.Proofs.Ytegjamjognpdkaa
open Go.RowKit
set_option linter.unusedVariables false
set_option linter.unusedSimpArgs false
theorem refNum_any (s : ByteArray) (hs : s.size ≤ 2) (w : World) : Calls Try.prog 33 #[.string s] w fun e w' => e = .returned (.int .u64 (numB s 0 s.size)) ∧ w = w' := by
  go_enter Try.func33, Try.ntmps33
  go_wp2
  go_loop [3, 4] (fun a i => ∃ j : Nat, j ≤ s.size ∧ i = .int .i64 (j : Int) ∧ a = .int .u64 (numB s 0 j)) (fun _ i => s.size - (intOf i).toNat)
  case atStart => exact ⟨0, Nat.zero_le _, rfl, rfl⟩
  case round =>
    obtain ⟨j, hj, rfl, rfl⟩ := hrel
    by_cases hlt : j < s.size
    · have e0 : IntKind.u64.wrap ((s[j].toNat : Nat) : Int) = byt s j := by
        rw [byt_get s j hlt]
        exact IntWalk.u64_in _ (by have := s[j].toNat_lt; omega)
      have h1 := numB_bd s 0 j
      have h2 := byt_bd s j
      have h3 := numB_step s 0 j (by omega)
      rw [Nat.zero_add] at h3
      have e1 : IntKind.u64.wrap (256 * numB s 0 j) = 256 * numB s 0 j := IntWalk.u64_in _ (by omega)
      have e2 : IntKind.u64.wrap (256 * numB s 0 j + byt s j) = numB s 0 (j + 1) := by rw [h3]; exact IntWalk.u64_in _ (by have := numB_bd s 0 (j + 1); omega)
      have e3 : IntKind.u64.wrap (numB s 0 (j + 1)) = numB s 0 (j + 1) := IntWalk.u64_in _ (by have := numB_bd s 0 (j + 1); omega)
      clear h1 h2
      go_wp2
      go_round
      case rel => exact ⟨j + 1, by omega, by go_num, rfl⟩
      case measure => simp [intOf]; omega
    · obtain rfl : j = s.size := by omega
      go_wp2
      go_ret
      exact ⟨rfl, rfl⟩
theorem adrC_get (v : Bool) (b : List Int) (hb : b.length = 16) (j : Nat) (hj : j < 16) : (adrC v b)[1 + j]? = some (.int .u8 (b.getD j 0)) := by
  unfold adrC
  rw [show 1 + j = j + 1 by omega, List.getElem?_cons_succ, List.getElem?_map, List.getElem?_eq_getElem (by omega), List.getD_eq_getElem?_getD, List.getElem?_eq_getElem (by omega)]
  rfl
theorem drop_zero {b : List Int} (hb : b.length = 16) (k : Nat) (hk : k ≤ 16) (h : ∀ t, k ≤ t → t < 16 → b.getD t 0 = 0) : b.drop k = List.replicate (16 - k) 0 := by
  apply List.ext_getElem
  · simp [hb]
  · intro i h1 h2
    simp only [List.length_drop, hb, List.length_replicate] at h1 h2
    have := h (k + i) (by omega) (by omega)
    rw [List.getD_eq_getElem?_getD, List.getElem?_eq_getElem (by omega)] at this
    simpa using this
theorem drop_no {b : List Int} (hb : b.length = 16) (k t : Nat) (h1 : k ≤ t) (h2 : t < 16) (h : b.getD t 0 ≠ 0) : ¬ b.drop k = List.replicate (16 - k) 0 := fun e => by
  have := congrArg (fun l => l[t - k]?) e
  simp only [List.getElem?_drop] at this
  rw [show k + (t - k) = t by omega, List.getElem?_eq_getElem (by omega), List.getElem?_replicate, if_pos (by omega)] at this
  apply h
  rw [List.getD_eq_getElem?_getD, List.getElem?_eq_getElem (by omega)]
  simpa using this
set_option maxRecDepth 100000 in
theorem refAGood_any (v : Bool) (b : List Int) (hb : b.length = 16) (w : World) : Calls Try.prog 37 #[.agg (adrC v b).toArray] w fun e w' => e = .returned (.bool (adrGood v b)) ∧ Mod (fun _ => False) w w' := by
  have HA := Lib.hid (Blk.new w 36 (adrC v b))
  have HM : Hid (Mod (fun _ => False) w (w.alloc (.cells (adrC v b).toArray 36 (0, 0)))) := Lib.hid ((Mod.refl _ _).alloc _)
  have HB := Lib.hid hb
  clear hb
  go_enter Try.func37, Try.ntmps37
  go_wp2_with fail
  obtain ⟨W, hW⟩ : ∃ W, W = w.alloc (.cells (adrC v b).toArray 36 (0, 0)) := ⟨_, rfl⟩
  obtain ⟨p, hp⟩ : ∃ p, p = w.heap.size := ⟨_, rfl⟩
  rw [← hW] at HA HM ⊢
  rw [← hp] at HA ⊢
  clear hW hp
  have c0 : W.cell? ⟨p, 0, none⟩ = some (.bool v) := HA.out.cell rfl
  go_loop [3] (fun i => ∃ j : Nat, 4 ≤ j ∧ j ≤ 16 ∧ i = .int .i64 (j : Int) ∧ (v = false → ∀ t, 4 ≤ t → t < j → b.getD t 0 = 0)) (fun i => 16 - (intOf i).toNat)
  case atStart => exact ⟨4, by omega, by omega, rfl, fun _ t h1 h2 => by omega⟩
  case round =>
    obtain ⟨j, h4, h16, rfl, hall⟩ := hrel
    have HALL := Lib.hid hall
    clear hall
    by_cases hlt : j < 16
    · have cj : W.cell? ⟨p, 1 + j, none⟩ = some (.int .u8 (b.getD j 0)) := HA.out.cell (adrC_get v b HB.out j hlt)
      obtain ⟨x, hx⟩ : ∃ x, x = b.getD j 0 := ⟨_, rfl⟩
      rw [← hx] at cj
      cases v with
      | true =>
        go_wp2
        go_round
        case rel => exact ⟨j + 1, by omega, by omega, by go_num, fun e => (by cases e)⟩
        case measure => simp [intOf]; omega
      | false =>
        by_cases h0 : x = 0
        · have HX : Hid (b.getD j 0 = 0) := Lib.hid (by rw [← hx, h0])
          clear hx
          subst h0
          go_wp2
          go_round
          case rel => exact ⟨j + 1, by omega, by omega, by go_num, fun _ t h1 h2 => by rcases (show t < j ∨ t = j by omega) with h | rfl; exact HALL.out rfl t h1 h; exact HX.out⟩
          case measure => simp [intOf]; omega
        · have HX : Hid (adrGood false b = false) := Lib.hid (decide_eq_false (drop_no HB.out 4 j h4 hlt (by rw [← hx]; exact h0)))
          clear hx
          go_wp2
          go_ret
          exact ⟨by rw [HX.out]; rfl, HM.out⟩
    · obtain rfl : j = 16 := by omega
      have HX : Hid (adrGood v b = true) := Lib.hid (by
        cases v with
        | true => rfl
        | false => exact decide_eq_true (drop_zero HB.out 4 (by omega) (HALL.out rfl)))
      go_wp2
      go_ret
      exact ⟨by rw [HX.out]; rfl, HM.out⟩
set_option maxRecDepth 100000 in
theorem refAZero_any (v : Bool) (b : List Int) (hb : b.length = 16) (w : World) : Calls Try.prog 38 #[.agg (adrC v b).toArray] w fun e w' => e = .returned (.bool (adrZero b)) ∧ Mod (fun _ => False) w w' := by
  have HA := Lib.hid (Blk.new w 36 (adrC v b))
  have HM : Hid (Mod (fun _ => False) w (w.alloc (.cells (adrC v b).toArray 36 (0, 0)))) := Lib.hid ((Mod.refl _ _).alloc _)
  have HB := Lib.hid hb
  clear hb
  go_enter Try.func38, Try.ntmps38
  go_wp2_with fail
  obtain ⟨W, hW⟩ : ∃ W, W = w.alloc (.cells (adrC v b).toArray 36 (0, 0)) := ⟨_, rfl⟩
  obtain ⟨p, hp⟩ : ∃ p, p = w.heap.size := ⟨_, rfl⟩
  rw [← hW] at HA HM ⊢
  rw [← hp] at HA ⊢
  clear hW hp
  go_loop [3] (fun i => ∃ j : Nat, j ≤ 16 ∧ i = .int .i64 (j : Int) ∧ (∀ t, 0 ≤ t → t < j → b.getD t 0 = 0)) (fun i => 16 - (intOf i).toNat)
  case atStart => exact ⟨0, by omega, rfl, fun t h1 h2 => by omega⟩
  case round =>
    obtain ⟨j, h16, rfl, hall⟩ := hrel
    have HALL := Lib.hid hall
    clear hall
    by_cases hlt : j < 16
    · have cj : W.cell? ⟨p, 1 + j, none⟩ = some (.int .u8 (b.getD j 0)) := HA.out.cell (adrC_get v b HB.out j hlt)
      obtain ⟨x, hx⟩ : ∃ x, x = b.getD j 0 := ⟨_, rfl⟩
      rw [← hx] at cj
      by_cases h0 : x = 0
      · have HX : Hid (b.getD j 0 = 0) := Lib.hid (by rw [← hx, h0])
        clear hx
        subst h0
        go_wp2
        go_round
        case rel => exact ⟨j + 1, by omega, by go_num, fun t h1 h2 => by rcases (show t < j ∨ t = j by omega) with h | rfl; exact HALL.out t h1 h; exact HX.out⟩
        case measure => simp [intOf]; omega
      · have HX : Hid (adrZero b = false) := Lib.hid (decide_eq_false (drop_no HB.out 0 j (by omega) hlt (by rw [← hx]; exact h0)))
        clear hx
        go_wp2
        go_ret
        exact ⟨by rw [HX.out]; rfl, HM.out⟩
    · obtain rfl : j = 16 := by omega
      have HX : Hid (adrZero b = true) := Lib.hid (decide_eq_true (drop_zero HB.out 0 (by omega) HALL.out))
      go_wp2
      go_ret
      exact ⟨by rw [HX.out]; rfl, HM.out⟩
set_option maxRecDepth 100000 in
theorem refAGroup_any (v : Bool) (b : List Int) (hb : b.length = 16) (w : World) : Calls Try.prog 39 #[.agg (adrC v b).toArray] w fun e w' => e = .returned (.bool (adrGroup v b)) ∧ Mod (fun _ => False) w w' := by
  obtain ⟨x, y, z, u, r, rfl, hr⟩ := adr_four hb
  have hA := Blk.new w 36 (adrC v (x :: y :: z :: u :: r))
  have c0 := hA.cell (j := 0) rfl
  have c1 := hA.cell (j := 1) rfl
  have HM : Hid (Mod (fun _ => False) w (w.alloc (.cells (adrC v (x :: y :: z :: u :: r)).toArray 36 (0, 0)))) := Lib.hid ((Mod.refl _ _).alloc _)
  clear hA hb
  cases v with
  | true =>
    by_cases h : x = 255
    · have HX : Hid (adrGroup true (x :: y :: z :: u :: r) = true) := Lib.hid (decide_eq_true h)
      have hxb : (x == 255) = true := by simp [h]
      clear h
      go_enter Try.func39, Try.ntmps39
      go_wp2
      go_returns
      exact ⟨by rw [HX.out]; rfl, HM.out⟩
    · have HX : Hid (adrGroup true (x :: y :: z :: u :: r) = false) := Lib.hid (decide_eq_false h)
      have hxb : (x == 255) = false := by simp [h]
      clear h
      go_enter Try.func39, Try.ntmps39
      go_wp2
      go_returns
      exact ⟨by rw [HX.out]; rfl, HM.out⟩
  | false =>
    by_cases h : 224 ≤ x
    · by_cases h2 : x ≤ 239
      · have HX : Hid (adrGroup false (x :: y :: z :: u :: r) = true) := Lib.hid (decide_eq_true ⟨h, h2⟩)
        go_enter Try.func39, Try.ntmps39
        go_wp2
        go_returns
        exact ⟨by rw [HX.out]; rfl, HM.out⟩
      · have HX : Hid (adrGroup false (x :: y :: z :: u :: r) = false) := Lib.hid (decide_eq_false fun ⟨_, e⟩ => h2 e)
        go_enter Try.func39, Try.ntmps39
        go_wp2
        go_returns
        exact ⟨by rw [HX.out]; rfl, HM.out⟩
    · have HX : Hid (adrGroup false (x :: y :: z :: u :: r) = false) := Lib.hid (decide_eq_false fun ⟨e, _⟩ => h e)
      go_enter Try.func39, Try.ntmps39
      go_wp2
      go_returns
      exact ⟨by rw [HX.out]; rfl, HM.out⟩
end Go.Proofs.Ytegjamjognpdkaa
