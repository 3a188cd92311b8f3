/- The reference of addresses: Read. -/
import Derived.Test.YtegjamjognpdkaaRefB
namespace Go.Proofs.Ytegjamjognpdkaa
open Go.RowKit
set_option linter.unusedVariables false
set_option linter.unusedSimpArgs false
theorem adrAt_set (s : ByteArray) (j : Nat) (hj : j < 16) : (adrAt s 0 j).set j (byt s j) = adrAt s 0 (j + 1) := by
  unfold adrAt
  apply List.ext_getElem?
  intro i
  rw [List.getElem?_set]
  simp only [List.length_map, List.length_range, List.getElem?_map, Nat.zero_add]
  by_cases hi : i < 16
  · rw [List.getElem?_range hi]
    by_cases h : j = i
    · subst h; simp [hi]
    · rw [if_neg h]
      simp only [Option.map_some, Option.some.injEq]
      by_cases h3 : i < j
      · rw [if_pos h3, if_pos (by omega)]
      · rw [if_neg h3, if_neg (by omega)]
  · rw [if_neg (by omega), List.getElem?_eq_none (by simpa using hi)]
    rfl
theorem adrC_set (v : Bool) (s : ByteArray) (j : Nat) (hj : j < 16) : (adrC v (adrAt s 0 j)).set (1 + j) (.int .u8 (byt s j)) = adrC v (adrAt s 0 (j + 1)) := by
  unfold adrC
  rw [show 1 + j = j + 1 by omega, List.set_cons_succ, ← adrAt_set s j hj, List.map_set]
theorem adrAt_0 (s : ByteArray) : adrAt s 0 0 = z16 := rfl
set_option maxRecDepth 100000 in
theorem refARead_4 (s : ByteArray) (h : s.size = 4) (w : World) : Calls Try.prog 34 #[.string s] w fun e w' => e = .returned (.tuple #[.agg (adrC false (adrAt s 0 4)).toArray, .bool true]) ∧ Mod (fun _ => False) w w' := by
  have HS := Lib.hid adrSz
  have HU := Lib.hid u8Sz
  have HZ : Hid ((adrC false z16).length = 17) := Lib.hid rfl
  have HR := Lib.hid (Blk.alloc (Blk.new w 36 (adrC false z16)) (.cells (adrC false z16).toArray 36 (0, 0)))
  have HL := Lib.hid (Blk.new (w.alloc (.cells (adrC false z16).toArray 36 (0, 0))) 36 (adrC false z16))
  have HM : Hid (Mod (fun _ => False) w ((w.alloc (.cells (adrC false z16).toArray 36 (0, 0))).alloc (.cells (adrC false z16).toArray 36 (0, 0)))) := Lib.hid (((Mod.refl _ _).alloc _).alloc _)
  rw [show (w.alloc (.cells (adrC false z16).toArray 36 (0, 0))).heap.size = w.heap.size + 1 by simp] at HL
  go_enter Try.func34, Try.ntmps34
  go_wp2_with (refine wpList_store_blk rfl _ _ _ rfl (w.heap.size + 1) 0 36 (adrC false z16) (adrC false z16) rfl rfl HL.out (by decide) HS.out (adrC_one _ _) ?_; intro W1 HL1 HM1)
  rw [show splice (adrC false z16) 0 (adrC false z16) = adrC false (adrAt s 0 0) from rfl] at HL1
  have HR1 := Lib.hid (HR.out.keep HM1.out (by omega))
  have HM2 : Hid (Mod (fun _ => False) w W1) := Lib.hid (HM.out.trans HM1.out fun x hx => .inr (by omega))
  obtain ⟨p, hp⟩ : ∃ p, p = w.heap.size := ⟨_, rfl⟩
  obtain ⟨q, hq⟩ : ∃ q, q = w.heap.size + 1 := ⟨_, rfl⟩
  rw [← hp] at HR1
  rw [← hq] at HL1
  rw [← hq, ← hp]
  have HPQ : Hid (p ≠ q ∧ w.heap.size ≤ p ∧ w.heap.size ≤ q) := Lib.hid (by omega)
  clear hp hq HR HL HM HM1
  go_loopw [5] (fun i wr => ∃ j : Nat, j ≤ 4 ∧ i = .int .i64 (j : Int) ∧ Blk wr q 36 (adrC false (adrAt s 0 j)) ∧ Blk wr p 36 (adrC false z16) ∧ Mod (fun _ => False) w wr) (fun i _ => 4 - (intOf i).toNat)
  case atStart => exact ⟨0, by omega, rfl, HL1.out, HR1.out, HM2.out⟩
  case round =>
    obtain ⟨j, hj, rfl, h1, h2, h3⟩ := hrel
    have HL3 := Lib.hid h1
    have HR3 := Lib.hid h2
    have HM3 := Lib.hid h3
    clear h1 h2 h3 HL1 HR1 HM2
    by_cases hlt : j < 4
    · have hjs : j < s.size := by omega
      have e0 : ((s[j].toNat : Nat) : Int) = byt s j := (byt_get s j hjs).symm
      have HF : Hid (1 + j < (adrC false (adrAt s 0 j)).length) := Lib.hid (by rw [adrC_len, adrAt_len]; omega)
      have hji : (j : Int) < 4 := by omega
      go_wp2_with (refine wpList_store_blk1 rfl _ _ _ rfl q (1 + j) 36 (adrC false (adrAt s 0 j)) (.int .u8 (byt s j)) rfl rfl HL3.out HF.out HU.out rfl ?_; intro W4 HL4 HM4; rw [adrC_set _ _ _ (by omega)] at HL4; have HR4 := Lib.hid (HR3.out.keep HM4.out HPQ.out.1); have HM5 := Lib.hid (HM3.out.trans HM4.out fun x hx => .inr (by have := HPQ.out; omega)))
      go_roundw
      case rel => exact ⟨j + 1, by omega, by go_num, HL4.out, HR4.out, HM5.out⟩
      case measure => simp [intOf]; omega
    · obtain rfl : j = 4 := by omega
      have HS2 : Hid ((Try.prog.info? 36).map (·.size) = some (adrC false (adrAt s 0 4)).length) := Lib.hid (by rw [adrC_len, adrAt_len]; exact adrSz)
      have HF2 : Hid (0 + (adrC false (adrAt s 0 4)).length ≤ (adrC false z16).length) := Lib.hid (by rw [adrC_len, adrAt_len]; decide)
      go_wp2_with (first | (refine wpList_load_blk rfl _ _ rfl q 0 rfl 36 (adrC false (adrAt s 0 4)) (adrC false (adrAt s 0 4)) _ HL3.out (List.take_of_length_le (Nat.le_refl _)) Try.underlying36 rfl HS2.out ?_) | (refine wpList_store_blk rfl _ _ _ rfl p 0 36 (adrC false z16) (adrC false (adrAt s 0 4)) rfl rfl HR3.out HF2.out HS2.out (adrC_one _ _) ?_; intro W4 HR4 HM4))
      have HR5 := Lib.hid (splice_all HR4.out (by rw [adrC_len, adrAt_len]; rfl))
      refine bodyPost_ret (results_blk_tmp rfl _ p 36 (adrC false (adrAt s 0 4)) rfl rfl HR5.out Try.underlying36 rfl HS2.out) rfl ?_
      exact ⟨rfl, HM3.out.trans HM4.out fun x hx => .inr (by have := HPQ.out; omega)⟩
set_option maxRecDepth 100000 in
theorem refARead_16 (s : ByteArray) (h : s.size = 16) (w : World) : Calls Try.prog 34 #[.string s] w fun e w' => e = .returned (.tuple #[.agg (adrC true (adrAt s 0 16)).toArray, .bool true]) ∧ Mod (fun _ => False) w w' := by
  have HS := Lib.hid adrSz
  have HU := Lib.hid u8Sz
  have HZ : Hid ((adrC false z16).length = 17) := Lib.hid rfl
  have HR := Lib.hid (Blk.alloc (Blk.new w 36 (adrC false z16)) (.cells (adrC false z16).toArray 36 (0, 0)))
  have HL := Lib.hid (Blk.new (w.alloc (.cells (adrC false z16).toArray 36 (0, 0))) 36 (adrC false z16))
  have HM : Hid (Mod (fun _ => False) w ((w.alloc (.cells (adrC false z16).toArray 36 (0, 0))).alloc (.cells (adrC false z16).toArray 36 (0, 0)))) := Lib.hid (((Mod.refl _ _).alloc _).alloc _)
  rw [show (w.alloc (.cells (adrC false z16).toArray 36 (0, 0))).heap.size = w.heap.size + 1 by simp] at HL
  go_enter Try.func34, Try.ntmps34
  go_wp2_with (refine wpList_store_blk rfl _ _ _ rfl (w.heap.size + 1) 0 36 (adrC false z16) (adrC true z16) rfl rfl HL.out (by decide) HS.out (adrC_one _ _) ?_; intro W1 HL1 HM1)
  rw [show splice (adrC false z16) 0 (adrC true z16) = adrC true (adrAt s 0 0) from rfl] at HL1
  have HR1 := Lib.hid (HR.out.keep HM1.out (by omega))
  have HM2 : Hid (Mod (fun _ => False) w W1) := Lib.hid (HM.out.trans HM1.out fun x hx => .inr (by omega))
  obtain ⟨p, hp⟩ : ∃ p, p = w.heap.size := ⟨_, rfl⟩
  obtain ⟨q, hq⟩ : ∃ q, q = w.heap.size + 1 := ⟨_, rfl⟩
  rw [← hp] at HR1
  rw [← hq] at HL1
  rw [← hq, ← hp]
  have HPQ : Hid (p ≠ q ∧ w.heap.size ≤ p ∧ w.heap.size ≤ q) := Lib.hid (by omega)
  clear hp hq HR HL HM HM1
  go_loopw [5] (fun i wr => ∃ j : Nat, j ≤ 16 ∧ i = .int .i64 (j : Int) ∧ Blk wr q 36 (adrC true (adrAt s 0 j)) ∧ Blk wr p 36 (adrC false z16) ∧ Mod (fun _ => False) w wr) (fun i _ => 16 - (intOf i).toNat)
  case atStart => exact ⟨0, by omega, rfl, HL1.out, HR1.out, HM2.out⟩
  case round =>
    obtain ⟨j, hj, rfl, h1, h2, h3⟩ := hrel
    have HL3 := Lib.hid h1
    have HR3 := Lib.hid h2
    have HM3 := Lib.hid h3
    clear h1 h2 h3 HL1 HR1 HM2
    by_cases hlt : j < 16
    · have hjs : j < s.size := by omega
      have e0 : ((s[j].toNat : Nat) : Int) = byt s j := (byt_get s j hjs).symm
      have HF : Hid (1 + j < (adrC true (adrAt s 0 j)).length) := Lib.hid (by rw [adrC_len, adrAt_len]; omega)
      have hji : (j : Int) < 16 := by omega
      go_wp2_with (refine wpList_store_blk1 rfl _ _ _ rfl q (1 + j) 36 (adrC true (adrAt s 0 j)) (.int .u8 (byt s j)) rfl rfl HL3.out HF.out HU.out rfl ?_; intro W4 HL4 HM4; rw [adrC_set _ _ _ (by omega)] at HL4; have HR4 := Lib.hid (HR3.out.keep HM4.out HPQ.out.1); have HM5 := Lib.hid (HM3.out.trans HM4.out fun x hx => .inr (by have := HPQ.out; omega)))
      go_roundw
      case rel => exact ⟨j + 1, by omega, by go_num, HL4.out, HR4.out, HM5.out⟩
      case measure => simp [intOf]; omega
    · obtain rfl : j = 16 := by omega
      have HS2 : Hid ((Try.prog.info? 36).map (·.size) = some (adrC true (adrAt s 0 16)).length) := Lib.hid (by rw [adrC_len, adrAt_len]; exact adrSz)
      have HF2 : Hid (0 + (adrC true (adrAt s 0 16)).length ≤ (adrC false z16).length) := Lib.hid (by rw [adrC_len, adrAt_len]; decide)
      go_wp2_with (first | (refine wpList_load_blk rfl _ _ rfl q 0 rfl 36 (adrC true (adrAt s 0 16)) (adrC true (adrAt s 0 16)) _ HL3.out (List.take_of_length_le (Nat.le_refl _)) Try.underlying36 rfl HS2.out ?_) | (refine wpList_store_blk rfl _ _ _ rfl p 0 36 (adrC false z16) (adrC true (adrAt s 0 16)) rfl rfl HR3.out HF2.out HS2.out (adrC_one _ _) ?_; intro W4 HR4 HM4))
      have HR5 := Lib.hid (splice_all HR4.out (by rw [adrC_len, adrAt_len]; rfl))
      refine bodyPost_ret (results_blk_tmp rfl _ p 36 (adrC true (adrAt s 0 16)) rfl rfl HR5.out Try.underlying36 rfl HS2.out) rfl ?_
      exact ⟨rfl, HM3.out.trans HM4.out fun x hx => .inr (by have := HPQ.out; omega)⟩
theorem refARead_any (s : ByteArray) (n : Nat) (hn : n = 4 ∨ n = 16) (h : s.size = n) (w : World) : Calls Try.prog 34 #[.string s] w fun e w' => e = .returned (.tuple #[.agg (adrC (decide (n = 16)) (adrAt s 0 n)).toArray, .bool true]) ∧ Mod (fun _ => False) w w' := by
  rcases hn with rfl | rfl
  · exact refARead_4 s h w
  · exact refARead_16 s h w
end Go.Proofs.Ytegjamjognpdkaa
