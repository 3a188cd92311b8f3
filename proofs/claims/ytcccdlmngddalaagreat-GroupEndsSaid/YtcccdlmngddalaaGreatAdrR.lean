/- addr.Read: contract (out of RdC). -/
import Derived.Test.YtcccdlmngddalaaGreatAdrW
import Derived.Test.YtcccdlmngddalaaGreatGrP
namespace Go.Proofs.YtcccdlmngddalaaGreat
open Go.RowKit
set_option linter.unusedVariables false
set_option linter.unusedSimpArgs false
theorem byt_get (s : ByteArray) (j : Nat) (h : j < s.size) : byt s j = ((s[j].toNat : Nat) : Int) := by
  have h' : j < s.data.toList.length := by simpa using h
  unfold byt
  rw [List.getElem?_eq_getElem h']
  simp
  rfl
theorem boolSz : (Tryz.prog.info? 4).map (·.size) = some 1 := by kernel_rfl
theorem bytes_at (s : ByteArray) (n : Nat) (h : s.size = n) (hn : n = 4 ∨ n = 16) (v : Bool) : splice ((adrC false z16).set 0 (.bool v)) 1 (s.data.toList.map fun x => .int .u8 (x.toNat : Int)) = adrC v (adrAt s 0 n) := by
  have h2 : (s.data.toList.map fun x => Value.int .u8 (x.toNat : Int)) = ((List.range n).map fun k => Value.int .u8 (byt s k)) := by
    apply List.ext_getElem
    · simp [h]
    · intro i h3 h4
      simp at h3 h4
      simp only [List.getElem_map, List.getElem_range]
      rw [byt_get s i (by omega)]
      rfl
  rw [h2]
  rcases hn with rfl | rfl
  · cases v <;> rfl
  · cases v <;> rfl
set_option maxRecDepth 100000 in
theorem addrRead_yes (s : ByteArray) (n : Nat) (hn : n = 4 ∨ n = 16) (h : s.size = n) (w : World) : Calls Tryz.prog 83 #[.string s] w fun e w' => e = .returned (.tuple #[.agg (adrC (decide (n = 16)) (adrAt s 0 n)).toArray, .int .i64 0]) ∧ Mod (fun _ => False) w w' := by
  have HS := Lib.hid adrSz
  have HB := Lib.hid boolSz
  have HU := Lib.hid u8Sz
  obtain ⟨bs, hbs⟩ : ∃ bs, bs = s.data.toList.map fun x => Value.int .u8 (x.toNat : Int) := ⟨_, rfl⟩
  have HBS := Lib.hid hbs
  go_enter Tryz.func83, Tryz.ntmps83
  iterate 21 go_step
  refine wp_new2 (t := 36) (t' := 36) (cs := adrC false z16) (cs' := adrC false z16) fun W HR HL HM => ?_
  rcases hn with rfl | rfl
  · have HS2 : Hid ((Tryz.prog.info? 36).map (·.size) = some (adrC false (adrAt s 0 4)).length) := Lib.hid (by rw [adrC_len, adrAt_len]; exact adrSz)
    have HF2 : Hid (0 + (adrC false (adrAt s 0 4)).length ≤ (adrC false z16).length) := Lib.hid (by rw [adrC_len, adrAt_len]; decide)
    have HX := Lib.hid (bytes_at s 4 h (.inl rfl) false)
    rw [← hbs] at HX
    clear hbs
    have HF : Hid (∀ v, 1 + s.size ≤ ((adrC false z16).set 0 v).length) := Lib.hid fun v => by rw [List.length_set, show (adrC false z16).length = 17 from rfl]; omega
    go_wp2_with (first | (refine wpList_load_blk rfl _ _ rfl (w.heap.size + 1) 0 rfl 36 (adrC false (adrAt s 0 4)) (adrC false (adrAt s 0 4)) _ HL2.out (List.take_of_length_le (Nat.le_refl _)) Tryz.underlying36 rfl HS2.out ?_) | (refine wpList_store_blk1 rfl _ _ _ rfl (w.heap.size + 1) 0 36 (adrC false z16) (.bool false) rfl rfl HL.out (by decide) HB.out rfl ?_; intro W1 HL1 HM1) | (refine wpList_store_blk rfl _ _ _ rfl w.heap.size 0 36 (adrC false z16) (adrC false (adrAt s 0 4)) rfl rfl HR2.out HF2.out HS2.out (adrC_one _ _) ?_; intro W3 HR3 HM3) | (refine wpList_copy_text rfl _ _ _ _ rfl 5 Tryz.underlying159 HU.out (w.heap.size + 1) 1 16 16 s rfl rfl 36 ((adrC false z16).set 0 (.bool false)) bs HL1.out HBS.out (by omega) (HF.out _) ?_; intro W2 HL2 HM2; rw [HX.out] at HL2; have HR2 := Lib.hid ((HR.out.keep HM1.out (by omega)).keep HM2.out (by omega))))
    have HR4 := Lib.hid (splice_all HR3.out (by rw [adrC_len, adrAt_len]; rfl))
    refine bodyPost_ret (results_blk_tmp rfl _ w.heap.size 36 (adrC false (adrAt s 0 4)) rfl rfl HR4.out Tryz.underlying36 rfl HS2.out) rfl ?_
    exact ⟨rfl, ((HM.out.trans HM1.out fun x hx => .inr (by omega)).trans HM2.out fun x hx => .inr (by omega)).trans HM3.out fun x hx => .inr (by omega)⟩
  · have HS2 : Hid ((Tryz.prog.info? 36).map (·.size) = some (adrC true (adrAt s 0 16)).length) := Lib.hid (by rw [adrC_len, adrAt_len]; exact adrSz)
    have HF2 : Hid (0 + (adrC true (adrAt s 0 16)).length ≤ (adrC false z16).length) := Lib.hid (by rw [adrC_len, adrAt_len]; decide)
    have HX := Lib.hid (bytes_at s 16 h (.inr rfl) true)
    rw [← hbs] at HX
    clear hbs
    have HF : Hid (∀ v, 1 + s.size ≤ ((adrC false z16).set 0 v).length) := Lib.hid fun v => by rw [List.length_set, show (adrC false z16).length = 17 from rfl]; omega
    go_wp2_with (first | (refine wpList_load_blk rfl _ _ rfl (w.heap.size + 1) 0 rfl 36 (adrC true (adrAt s 0 16)) (adrC true (adrAt s 0 16)) _ HL2.out (List.take_of_length_le (Nat.le_refl _)) Tryz.underlying36 rfl HS2.out ?_) | (refine wpList_store_blk1 rfl _ _ _ rfl (w.heap.size + 1) 0 36 (adrC false z16) (.bool true) rfl rfl HL.out (by decide) HB.out rfl ?_; intro W1 HL1 HM1) | (refine wpList_store_blk rfl _ _ _ rfl w.heap.size 0 36 (adrC false z16) (adrC true (adrAt s 0 16)) rfl rfl HR2.out HF2.out HS2.out (adrC_one _ _) ?_; intro W3 HR3 HM3) | (refine wpList_copy_text rfl _ _ _ _ rfl 5 Tryz.underlying159 HU.out (w.heap.size + 1) 1 16 16 s rfl rfl 36 ((adrC false z16).set 0 (.bool true)) bs HL1.out HBS.out (by omega) (HF.out _) ?_; intro W2 HL2 HM2; rw [HX.out] at HL2; have HR2 := Lib.hid ((HR.out.keep HM1.out (by omega)).keep HM2.out (by omega))))
    have HR4 := Lib.hid (splice_all HR3.out (by rw [adrC_len, adrAt_len]; rfl))
    refine bodyPost_ret (results_blk_tmp rfl _ w.heap.size 36 (adrC true (adrAt s 0 16)) rfl rfl HR4.out Tryz.underlying36 rfl HS2.out) rfl ?_
    exact ⟨rfl, ((HM.out.trans HM1.out fun x hx => .inr (by omega)).trans HM2.out fun x hx => .inr (by omega)).trans HM3.out fun x hx => .inr (by omega)⟩
/-- an address's key -/
def Ad.key (a : Ad) : ByteArray := strOfNums a.kb
theorem byt_nums (xs : List Int) (h : ∀ x ∈ xs, 0 ≤ x ∧ x < 256) (i : Nat) (hi : i < xs.length) : byt (strOfNums xs) i = xs[i] := by
  unfold byt
  rw [strOfNums_data, List.getElem?_map, List.getElem?_eq_getElem hi]
  have := h xs[i] (List.getElem_mem hi)
  simp
  omega
theorem nums_inj : ∀ (xs ys : List Int), (∀ x ∈ xs, 0 ≤ x ∧ x < 256) → (∀ x ∈ ys, 0 ≤ x ∧ x < 256) → strOfNums xs = strOfNums ys → xs = ys := fun xs ys hx hy h => by
  have hl : xs.length = ys.length := by rw [← strOfNums_size xs, ← strOfNums_size ys, h]
  refine List.ext_getElem hl fun i h1 h2 => ?_
  rw [← byt_nums xs hx i h1, ← byt_nums ys hy i h2, h]
theorem Ad.kb_ok (a : Ad) : ∀ x ∈ a.kb, 0 ≤ x ∧ x < 256 := by
  unfold Ad.kb
  split
  · exact a.ok.2
  · exact (take4 a.ok).2
theorem Ad.key_inj {a b : Ad} (ha : a.good = true) (hb : b.good = true) (h : a.key = b.key) : a = b := kb_inj ha hb (nums_inj _ _ a.kb_ok b.kb_ok h)
theorem adrAt_get (s : ByteArray) (q wide i : Nat) (h : i < (adrAt s q wide).length) : (adrAt s q wide)[i] = if i < wide then byt s (q + i) else 0 := by simp [adrAt]
theorem Ad.read_eq {a : Ad} (h : a.good = true) : (a.key.size = 4 ∨ a.key.size = 16) ∧ decide (a.key.size = 16) = a.v ∧ adrAt a.key 0 a.key.size = a.b := by
  have hs : a.key.size = a.kb.length := strOfNums_size _
  cases hv : a.v with
  | true =>
    have hk : a.kb = a.b := by unfold Ad.kb; rw [hv]; rfl
    rw [hk, a.ok.1] at hs
    rw [hs]
    refine ⟨.inr rfl, rfl, List.ext_getElem (by rw [adrAt_len, a.ok.1]) fun i h1 h2 => ?_⟩
    have h5 := h1
    rw [adrAt_len] at h5
    rw [adrAt_get, if_pos h5, Nat.zero_add]
    unfold Ad.key
    rw [byt_nums _ a.kb_ok i (by rw [hk]; exact h2)]
    simp [hk]
  | false =>
    have hk : a.kb = a.b.take 4 := by unfold Ad.kb; rw [hv]; rfl
    rw [hk, (take4 a.ok).1] at hs
    rw [hs]
    refine ⟨.inl rfl, rfl, List.ext_getElem (by rw [adrAt_len, a.ok.1]) fun i h1 h2 => ?_⟩
    rw [adrAt_get]
    have h5 := h1
    rw [adrAt_len] at h5
    by_cases h3 : i < 4
    · rw [if_pos h3, Nat.zero_add]
      unfold Ad.key
      rw [byt_nums _ a.kb_ok i (by rw [hk, (take4 a.ok).1]; exact h3)]
      simp [hk]
    · rw [if_neg h3]
      unfold Ad.good adrGood at h
      rw [hv, Bool.false_or, decide_eq_true_eq] at h
      have h4 : (a.b.drop 4)[i - 4]? = some 0 := by rw [h, List.getElem?_replicate, if_pos (by omega)]
      rw [List.getElem?_drop, show 4 + (i - 4) = i by omega, List.getElem?_eq_getElem h2] at h4
      simpa using h4.symm
end Go.Proofs.YtcccdlmngddalaaGreat
