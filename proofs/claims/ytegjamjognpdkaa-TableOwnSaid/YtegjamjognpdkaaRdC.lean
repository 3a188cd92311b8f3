/- octet.Reader.Num; addr.Read: contracts. -/
import Derived.Test.YtegjamjognpdkaaRdB
import Derived.Test.YtegjamjognpdkaaBlk
namespace Go.Proofs.Ytegjamjognpdkaa
open Go.RowKit
set_option linter.unusedVariables false
set_option linter.unusedSimpArgs false
theorem byt_extract (s : ByteArray) (a b i : Nat) (h : a + i < b) (hb : b ≤ s.size) : byt (s.extract a b) i = byt s (a + i) := by
  have h1 : (s.extract a b).data.toList[i]? = s.data.toList[a + i]? := by
    rw [ByteArray.data_extract, Array.getElem?_toList, Array.getElem?_toList, Array.getElem?_extract, if_pos]
    have : s.data.size = s.size := rfl
    omega
  unfold byt
  rw [h1]
theorem ext_size (s : ByteArray) (a n : Nat) (h : a + n ≤ s.size) : (s.extract a (a + n)).size = n := by rw [ByteArray.size_extract]; omega
def nuV (s : ByteArray) (a : Nat) (bad : Bool) (n : Nat) : Int := if tkIs s a bad n then numB s a n else 0
theorem nuV_eq (s : ByteArray) (a : Nat) (bad : Bool) (n : Nat) (hn : n ≤ 2) : (tkS s a bad n).size ≤ 2 ∧ numB (tkS s a bad n) 0 (tkS s a bad n).size = nuV s a bad n := by
  unfold tkS nuV
  split
  · rename_i h
    rw [ext_size s a n h.2]
    refine ⟨hn, ?_⟩
    have h2 := h.2
    rcases (show n = 0 ∨ n = 1 ∨ n = 2 by omega) with rfl | rfl | rfl
    · rfl
    · show byt _ 0 = byt s a
      rw [byt_extract s a _ 0 (by omega) h2, Nat.add_zero]
    · show num2 _ 0 = num2 s a
      unfold num2
      rw [byt_extract s a _ 0 (by omega) h2, byt_extract s a _ 1 (by omega) h2, Nat.add_zero]
  · exact ⟨Nat.zero_le _, rfl⟩
theorem nuV_bd (s : ByteArray) (a : Nat) (bad : Bool) (n : Nat) : 0 ≤ nuV s a bad n ∧ nuV s a bad n < 65536 := by
  unfold nuV
  split
  · exact numB_bd _ _ _
  · omega
theorem Num_any {p : Nat} {s : ByteArray} {a : Nat} {bad : Bool} (n : Nat) (hn : n ≤ 2) (w : World) (h : RdAt w p s a bad) (ha : a ≤ s.size) (hs : s.size ≤ 1000) : Calls Try.prog 50 #[.pointer (some ⟨p, 0, none⟩), .int .i64 (n : Int)] w fun e w' => e = .returned (.int .u64 (nuV s a bad n)) ∧ RdAt w' p s (tkA s a bad n) (tkB s a bad n) ∧ Mod (fun k => k = p) w w' := by
  obtain ⟨q1, q2⟩ := nuV_eq s a bad n hn
  have Q2 := Lib.hid q2
  clear q2
  go_enter Try.func50, Try.ntmps50
  go_wp2_with fail
  refine (within_any n (by omega) _).mono ?_; rintro e w1 ⟨rfl, rfl⟩
  go_wp2_with fail
  refine (take_any n (by omega) _ h ha hs).mono ?_; rintro e w1 ⟨rfl, hR, hM⟩
  have HR := Lib.hid hR
  have HM := Lib.hid hM
  clear hR hM h
  go_wp2_with fail
  refine (num_any _ q1 _).mono ?_; rintro e w2 ⟨rfl, rfl⟩
  rw [Q2.out]
  go_wp2
  go_ret
  exact ⟨rfl, HR.out, HM.out⟩
theorem adrSz : (Try.prog.info? 36).map (·.size) = some 17 := by kernel_rfl
theorem u8Sz : (Try.prog.info? 5).map (·.size) = some 1 := by kernel_rfl
def z16 : List Int := List.replicate 16 0
theorem adrC_one (v : Bool) (xs : List Int) : ∀ u ∈ adrC v xs, u.oneCell' = true := by
  intro u hu
  unfold adrC at hu
  rcases List.mem_cons.1 hu with rfl | hu
  · rfl
  · obtain ⟨x, _, rfl⟩ := List.mem_map.1 hu
    rfl
theorem adrC_len (v : Bool) (xs : List Int) : (adrC v xs).length = xs.length + 1 := by simp [adrC]
theorem splice_all {w : World} {g : Nat} {t : TypeId} {cur cs : List Value} (h : Blk w g t (splice cur 0 cs)) (hl : cs.length = cur.length) : Blk w g t cs := by
  have : splice cur 0 cs = cs := by unfold splice; simp [hl]
  rwa [this] at h
set_option maxRecDepth 100000 in
theorem addrRead_no (s : ByteArray) (h : s.size = 0) (w : World) : Calls Try.prog 51 #[.string s] w fun e w' => e = .returned (.tuple #[.agg (adrC false z16).toArray, .int .i64 2]) ∧ Mod (fun _ => False) w w' := by
  have HS := Lib.hid adrSz
  go_enter Try.func51, Try.ntmps51
  iterate 21 go_step
  refine wp_new2 (t := 36) (t' := 36) (cs := adrC false z16) (cs' := adrC false z16) fun W HR HL HM => ?_
  go_wp2_with (first | (refine wpList_load_blk rfl _ _ rfl (w.heap.size + 1) 0 rfl 36 (adrC false z16) (adrC false z16) _ HL.out rfl Try.underlying36 rfl HS.out ?_) | (refine wpList_store_blk rfl _ _ _ rfl w.heap.size 0 36 (adrC false z16) (adrC false z16) rfl rfl HR.out (by decide) HS.out (adrC_one _ _) ?_; intro W1 HR1 HM1))
  refine bodyPost_ret (results_blk_tmp rfl _ w.heap.size 36 (adrC false z16) rfl rfl HR1.out Try.underlying36 rfl HS.out) rfl ?_
  exact ⟨rfl, HM.out.trans HM1.out fun x hx => .inr (by omega)⟩
theorem boolSz : (Try.prog.info? 4).map (·.size) = some 1 := by kernel_rfl
theorem bytes_at (s : ByteArray) (n : Nat) (h : s.size = n) (hn : n = 4 ∨ n = 16) (v : Bool) : splice ((adrC false z16).set 0 (.bool v)) 1 (s.data.toList.map fun x => .int .u8 (x.toNat : Int)) = adrC v (adrAt s 0 n) := by
  have h2 : (s.data.toList.map fun x => Value.int .u8 (x.toNat : Int)) = ((List.range n).map fun k => Value.int .u8 (byt s k)) := by
    apply List.ext_getElem
    · simp [h]
    · intro i h3 h4
      simp at h3 h4
      simp only [List.getElem_map, List.getElem_range]
      rw [byt_get s i (by omega)]
      rfl
  rw [h2]
  rcases hn with rfl | rfl
  · cases v <;> rfl
  · cases v <;> rfl
set_option maxRecDepth 100000 in
theorem addrRead_yes (s : ByteArray) (n : Nat) (hn : n = 4 ∨ n = 16) (h : s.size = n) (w : World) : Calls Try.prog 51 #[.string s] w fun e w' => e = .returned (.tuple #[.agg (adrC (decide (n = 16)) (adrAt s 0 n)).toArray, .int .i64 0]) ∧ Mod (fun _ => False) w w' := by
  have HS := Lib.hid adrSz
  have HB := Lib.hid boolSz
  have HU := Lib.hid u8Sz
  obtain ⟨bs, hbs⟩ : ∃ bs, bs = s.data.toList.map fun x => Value.int .u8 (x.toNat : Int) := ⟨_, rfl⟩
  have HBS := Lib.hid hbs
  go_enter Try.func51, Try.ntmps51
  iterate 21 go_step
  refine wp_new2 (t := 36) (t' := 36) (cs := adrC false z16) (cs' := adrC false z16) fun W HR HL HM => ?_
  rcases hn with rfl | rfl
  · have HS2 : Hid ((Try.prog.info? 36).map (·.size) = some (adrC false (adrAt s 0 4)).length) := Lib.hid (by rw [adrC_len, adrAt_len]; exact adrSz)
    have HF2 : Hid (0 + (adrC false (adrAt s 0 4)).length ≤ (adrC false z16).length) := Lib.hid (by rw [adrC_len, adrAt_len]; decide)
    have HX := Lib.hid (bytes_at s 4 h (.inl rfl) false)
    rw [← hbs] at HX
    clear hbs
    have HF : Hid (∀ v, 1 + s.size ≤ ((adrC false z16).set 0 v).length) := Lib.hid fun v => by rw [List.length_set, show (adrC false z16).length = 17 from rfl]; omega
    go_wp2_with (first | (refine wpList_load_blk rfl _ _ rfl (w.heap.size + 1) 0 rfl 36 (adrC false (adrAt s 0 4)) (adrC false (adrAt s 0 4)) _ HL2.out (List.take_of_length_le (Nat.le_refl _)) Try.underlying36 rfl HS2.out ?_) | (refine wpList_store_blk1 rfl _ _ _ rfl (w.heap.size + 1) 0 36 (adrC false z16) (.bool false) rfl rfl HL.out (by decide) HB.out rfl ?_; intro W1 HL1 HM1) | (refine wpList_store_blk rfl _ _ _ rfl w.heap.size 0 36 (adrC false z16) (adrC false (adrAt s 0 4)) rfl rfl HR2.out HF2.out HS2.out (adrC_one _ _) ?_; intro W3 HR3 HM3) | (refine wpList_copy_text rfl _ _ _ _ rfl 5 Try.underlying114 HU.out (w.heap.size + 1) 1 16 16 s rfl rfl 36 ((adrC false z16).set 0 (.bool false)) bs HL1.out HBS.out (by omega) (HF.out _) ?_; intro W2 HL2 HM2; rw [HX.out] at HL2; have HR2 := Lib.hid ((HR.out.keep HM1.out (by omega)).keep HM2.out (by omega))))
    have HR4 := Lib.hid (splice_all HR3.out (by rw [adrC_len, adrAt_len]; rfl))
    refine bodyPost_ret (results_blk_tmp rfl _ w.heap.size 36 (adrC false (adrAt s 0 4)) rfl rfl HR4.out Try.underlying36 rfl HS2.out) rfl ?_
    exact ⟨rfl, ((HM.out.trans HM1.out fun x hx => .inr (by omega)).trans HM2.out fun x hx => .inr (by omega)).trans HM3.out fun x hx => .inr (by omega)⟩
  · have HS2 : Hid ((Try.prog.info? 36).map (·.size) = some (adrC true (adrAt s 0 16)).length) := Lib.hid (by rw [adrC_len, adrAt_len]; exact adrSz)
    have HF2 : Hid (0 + (adrC true (adrAt s 0 16)).length ≤ (adrC false z16).length) := Lib.hid (by rw [adrC_len, adrAt_len]; decide)
    have HX := Lib.hid (bytes_at s 16 h (.inr rfl) true)
    rw [← hbs] at HX
    clear hbs
    have HF : Hid (∀ v, 1 + s.size ≤ ((adrC false z16).set 0 v).length) := Lib.hid fun v => by rw [List.length_set, show (adrC false z16).length = 17 from rfl]; omega
    go_wp2_with (first | (refine wpList_load_blk rfl _ _ rfl (w.heap.size + 1) 0 rfl 36 (adrC true (adrAt s 0 16)) (adrC true (adrAt s 0 16)) _ HL2.out (List.take_of_length_le (Nat.le_refl _)) Try.underlying36 rfl HS2.out ?_) | (refine wpList_store_blk1 rfl _ _ _ rfl (w.heap.size + 1) 0 36 (adrC false z16) (.bool true) rfl rfl HL.out (by decide) HB.out rfl ?_; intro W1 HL1 HM1) | (refine wpList_store_blk rfl _ _ _ rfl w.heap.size 0 36 (adrC false z16) (adrC true (adrAt s 0 16)) rfl rfl HR2.out HF2.out HS2.out (adrC_one _ _) ?_; intro W3 HR3 HM3) | (refine wpList_copy_text rfl _ _ _ _ rfl 5 Try.underlying114 HU.out (w.heap.size + 1) 1 16 16 s rfl rfl 36 ((adrC false z16).set 0 (.bool true)) bs HL1.out HBS.out (by omega) (HF.out _) ?_; intro W2 HL2 HM2; rw [HX.out] at HL2; have HR2 := Lib.hid ((HR.out.keep HM1.out (by omega)).keep HM2.out (by omega))))
    have HR4 := Lib.hid (splice_all HR3.out (by rw [adrC_len, adrAt_len]; rfl))
    refine bodyPost_ret (results_blk_tmp rfl _ w.heap.size 36 (adrC true (adrAt s 0 16)) rfl rfl HR4.out Try.underlying36 rfl HS2.out) rfl ?_
    exact ⟨rfl, ((HM.out.trans HM1.out fun x hx => .inr (by omega)).trans HM2.out fun x hx => .inr (by omega)).trans HM3.out fun x hx => .inr (by omega)⟩
end Go.Proofs.Ytegjamjognpdkaa
