/- Rows of addresses in memory; addr.Cmp, Good, Bytes, Read, group.key, slices.Clone at addresses: contracts. -/
import Derived.Test.YtcccdlmngddalaaGreatAdrW
import Derived.Test.YtcccdlmngddalaaGreatGrP
import Derived.Test.YtcccdlmngddalaaGreatGrA
import Derived.Test.YtcccdlmngddalaaGreatApR
namespace Go.Proofs.YtcccdlmngddalaaGreat
open Go.RowKit
set_option linter.unusedVariables false
set_option linter.unusedSimpArgs false
theorem byt_get (s : ByteArray) (j : Nat) (h : j < s.size) : byt s j = ((s[j].toNat : Nat) : Int) := by
  have h' : j < s.data.toList.length := by simpa using h
  unfold byt
  rw [List.getElem?_eq_getElem h']
  simp
  rfl
theorem boolSz : (Tryz.prog.info? 4).map (·.size) = some 1 := by kernel_rfl
theorem bytes_at (s : ByteArray) (n : Nat) (h : s.size = n) (hn : n = 4 ∨ n = 16) (v : Bool) : splice ((adrC false z16).set 0 (.bool v)) 1 (s.data.toList.map fun x => .int .u8 (x.toNat : Int)) = adrC v (adrAt s 0 n) := by
  have h2 : (s.data.toList.map fun x => Value.int .u8 (x.toNat : Int)) = ((List.range n).map fun k => Value.int .u8 (byt s k)) := by
    apply List.ext_getElem
    · simp [h]
    · intro i h3 h4
      simp at h3 h4
      simp only [List.getElem_map, List.getElem_range]
      rw [byt_get s i (by omega)]
      rfl
  rw [h2]
  rcases hn with rfl | rfl
  · cases v <;> rfl
  · cases v <;> rfl
set_option maxRecDepth 100000 in
theorem addrRead_yes (s : ByteArray) (n : Nat) (hn : n = 4 ∨ n = 16) (h : s.size = n) (w : World) : Calls Tryz.prog 83 #[.string s] w fun e w' => e = .returned (.tuple #[.agg (adrC (decide (n = 16)) (adrAt s 0 n)).toArray, .int .i64 0]) ∧ Mod (fun _ => False) w w' := by
  have HS := Lib.hid adrSz
  have HB := Lib.hid boolSz
  have HU := Lib.hid u8Sz
  obtain ⟨bs, hbs⟩ : ∃ bs, bs = s.data.toList.map fun x => Value.int .u8 (x.toNat : Int) := ⟨_, rfl⟩
  have HBS := Lib.hid hbs
  go_enter Tryz.func83, Tryz.ntmps83
  iterate 21 go_step
  refine wp_new2 (t := 36) (t' := 36) (cs := adrC false z16) (cs' := adrC false z16) fun W HR HL HM => ?_
  rcases hn with rfl | rfl
  · have HS2 : Hid ((Tryz.prog.info? 36).map (·.size) = some (adrC false (adrAt s 0 4)).length) := Lib.hid (by rw [adrC_len, adrAt_len]; exact adrSz)
    have HF2 : Hid (0 + (adrC false (adrAt s 0 4)).length ≤ (adrC false z16).length) := Lib.hid (by rw [adrC_len, adrAt_len]; decide)
    have HX := Lib.hid (bytes_at s 4 h (.inl rfl) false)
    rw [← hbs] at HX
    clear hbs
    have HF : Hid (∀ v, 1 + s.size ≤ ((adrC false z16).set 0 v).length) := Lib.hid fun v => by rw [List.length_set, show (adrC false z16).length = 17 from rfl]; omega
    go_wp2_with (first | (refine wpList_load_blk rfl _ _ rfl (w.heap.size + 1) 0 rfl 36 (adrC false (adrAt s 0 4)) (adrC false (adrAt s 0 4)) _ HL2.out (List.take_of_length_le (Nat.le_refl _)) Tryz.underlying36 rfl HS2.out ?_) | (refine wpList_store_blk1 rfl _ _ _ rfl (w.heap.size + 1) 0 36 (adrC false z16) (.bool false) rfl rfl HL.out (by decide) HB.out rfl ?_; intro W1 HL1 HM1) | (refine wpList_store_blk rfl _ _ _ rfl w.heap.size 0 36 (adrC false z16) (adrC false (adrAt s 0 4)) rfl rfl HR2.out HF2.out HS2.out (adrC_one _ _) ?_; intro W3 HR3 HM3) | (refine wpList_copy_text rfl _ _ _ _ rfl 5 Tryz.underlying159 HU.out (w.heap.size + 1) 1 16 16 s rfl rfl 36 ((adrC false z16).set 0 (.bool false)) bs HL1.out HBS.out (by omega) (HF.out _) ?_; intro W2 HL2 HM2; rw [HX.out] at HL2; have HR2 := Lib.hid ((HR.out.keep HM1.out (by omega)).keep HM2.out (by omega))))
    have HR4 := Lib.hid (splice_all HR3.out (by rw [adrC_len, adrAt_len]; rfl))
    refine bodyPost_ret (results_blk_tmp rfl _ w.heap.size 36 (adrC false (adrAt s 0 4)) rfl rfl HR4.out Tryz.underlying36 rfl HS2.out) rfl ?_
    exact ⟨rfl, ((HM.out.trans HM1.out fun x hx => .inr (by omega)).trans HM2.out fun x hx => .inr (by omega)).trans HM3.out fun x hx => .inr (by omega)⟩
  · have HS2 : Hid ((Tryz.prog.info? 36).map (·.size) = some (adrC true (adrAt s 0 16)).length) := Lib.hid (by rw [adrC_len, adrAt_len]; exact adrSz)
    have HF2 : Hid (0 + (adrC true (adrAt s 0 16)).length ≤ (adrC false z16).length) := Lib.hid (by rw [adrC_len, adrAt_len]; decide)
    have HX := Lib.hid (bytes_at s 16 h (.inr rfl) true)
    rw [← hbs] at HX
    clear hbs
    have HF : Hid (∀ v, 1 + s.size ≤ ((adrC false z16).set 0 v).length) := Lib.hid fun v => by rw [List.length_set, show (adrC false z16).length = 17 from rfl]; omega
    go_wp2_with (first | (refine wpList_load_blk rfl _ _ rfl (w.heap.size + 1) 0 rfl 36 (adrC true (adrAt s 0 16)) (adrC true (adrAt s 0 16)) _ HL2.out (List.take_of_length_le (Nat.le_refl _)) Tryz.underlying36 rfl HS2.out ?_) | (refine wpList_store_blk1 rfl _ _ _ rfl (w.heap.size + 1) 0 36 (adrC false z16) (.bool true) rfl rfl HL.out (by decide) HB.out rfl ?_; intro W1 HL1 HM1) | (refine wpList_store_blk rfl _ _ _ rfl w.heap.size 0 36 (adrC false z16) (adrC true (adrAt s 0 16)) rfl rfl HR2.out HF2.out HS2.out (adrC_one _ _) ?_; intro W3 HR3 HM3) | (refine wpList_copy_text rfl _ _ _ _ rfl 5 Tryz.underlying159 HU.out (w.heap.size + 1) 1 16 16 s rfl rfl 36 ((adrC false z16).set 0 (.bool true)) bs HL1.out HBS.out (by omega) (HF.out _) ?_; intro W2 HL2 HM2; rw [HX.out] at HL2; have HR2 := Lib.hid ((HR.out.keep HM1.out (by omega)).keep HM2.out (by omega))))
    have HR4 := Lib.hid (splice_all HR3.out (by rw [adrC_len, adrAt_len]; rfl))
    refine bodyPost_ret (results_blk_tmp rfl _ w.heap.size 36 (adrC true (adrAt s 0 16)) rfl rfl HR4.out Tryz.underlying36 rfl HS2.out) rfl ?_
    exact ⟨rfl, ((HM.out.trans HM1.out fun x hx => .inr (by omega)).trans HM2.out fun x hx => .inr (by omega)).trans HM3.out fun x hx => .inr (by omega)⟩
/-- an address's key -/
def Ad.key (a : Ad) : ByteArray := strOfNums a.kb
theorem byt_nums (xs : List Int) (h : ∀ x ∈ xs, 0 ≤ x ∧ x < 256) (i : Nat) (hi : i < xs.length) : byt (strOfNums xs) i = xs[i] := by
  unfold byt
  rw [strOfNums_data, List.getElem?_map, List.getElem?_eq_getElem hi]
  have := h xs[i] (List.getElem_mem hi)
  simp
  omega
theorem nums_inj : ∀ (xs ys : List Int), (∀ x ∈ xs, 0 ≤ x ∧ x < 256) → (∀ x ∈ ys, 0 ≤ x ∧ x < 256) → strOfNums xs = strOfNums ys → xs = ys := fun xs ys hx hy h => by
  have hl : xs.length = ys.length := by rw [← strOfNums_size xs, ← strOfNums_size ys, h]
  refine List.ext_getElem hl fun i h1 h2 => ?_
  rw [← byt_nums xs hx i h1, ← byt_nums ys hy i h2, h]
theorem Ad.kb_ok (a : Ad) : ∀ x ∈ a.kb, 0 ≤ x ∧ x < 256 := by
  unfold Ad.kb
  split
  · exact a.ok.2
  · exact (take4 a.ok).2
theorem Ad.key_inj {a b : Ad} (ha : a.good = true) (hb : b.good = true) (h : a.key = b.key) : a = b := kb_inj ha hb (nums_inj _ _ a.kb_ok b.kb_ok h)
theorem adrAt_get (s : ByteArray) (q wide i : Nat) (h : i < (adrAt s q wide).length) : (adrAt s q wide)[i] = if i < wide then byt s (q + i) else 0 := by simp [adrAt]
theorem Ad.read_eq {a : Ad} (h : a.good = true) : (a.key.size = 4 ∨ a.key.size = 16) ∧ decide (a.key.size = 16) = a.v ∧ adrAt a.key 0 a.key.size = a.b := by
  have hs : a.key.size = a.kb.length := strOfNums_size _
  cases hv : a.v with
  | true =>
    have hk : a.kb = a.b := by unfold Ad.kb; rw [hv]; rfl
    rw [hk, a.ok.1] at hs
    rw [hs]
    refine ⟨.inr rfl, rfl, List.ext_getElem (by rw [adrAt_len, a.ok.1]) fun i h1 h2 => ?_⟩
    have h5 := h1
    rw [adrAt_len] at h5
    rw [adrAt_get, if_pos h5, Nat.zero_add]
    unfold Ad.key
    rw [byt_nums _ a.kb_ok i (by rw [hk]; exact h2)]
    simp [hk]
  | false =>
    have hk : a.kb = a.b.take 4 := by unfold Ad.kb; rw [hv]; rfl
    rw [hk, (take4 a.ok).1] at hs
    rw [hs]
    refine ⟨.inl rfl, rfl, List.ext_getElem (by rw [adrAt_len, a.ok.1]) fun i h1 h2 => ?_⟩
    rw [adrAt_get]
    have h5 := h1
    rw [adrAt_len] at h5
    by_cases h3 : i < 4
    · rw [if_pos h3, Nat.zero_add]
      unfold Ad.key
      rw [byt_nums _ a.kb_ok i (by rw [hk, (take4 a.ok).1]; exact h3)]
      simp [hk]
    · rw [if_neg h3]
      unfold Ad.good adrGood at h
      rw [hv, Bool.false_or, decide_eq_true_eq] at h
      have h4 : (a.b.drop 4)[i - 4]? = some 0 := by rw [h, List.getElem?_replicate, if_pos (by omega)]
      rw [List.getElem?_drop, show 4 + (i - 4) = i by omega, List.getElem?_eq_getElem h2] at h4
      simpa using h4.symm
end Go.Proofs.YtcccdlmngddalaaGreat
namespace Go.Proofs.YtcccdlmngddalaaGreat
open Go.RowKit Go.Sort
set_option linter.unusedVariables false
set_option linter.unusedSimpArgs false
def Ad.c (a : Ad) : List Value := adrC a.v a.b
theorem Ad.c_len (a : Ad) : a.c.length = 17 := by unfold Ad.c; rw [adrC_len, a.ok.1]
theorem Ad.c_one (a : Ad) : ∀ u ∈ a.c, u.oneCell' = true := adrC_one _ _
theorem Ad.c_sz (a : Ad) : (Tryz.prog.info? 36).map (·.size) = some a.c.length := by rw [a.c_len]; exact adrSz
def cellsA (l : List Ad) : List Value := l.flatMap Ad.c
theorem cellsA_cons (a : Ad) (l : List Ad) : cellsA (a :: l) = a.c ++ cellsA l := by simp [cellsA]
theorem cellsA_app (l m : List Ad) : cellsA (l ++ m) = cellsA l ++ cellsA m := by simp [cellsA]
theorem cellsA_len : ∀ l : List Ad, (cellsA l).length = l.length * 17
  | [] => rfl
  | a :: l => by rw [cellsA_cons, List.length_append, a.c_len, cellsA_len l, List.length_cons]; omega
theorem cellsA_one : ∀ (l : List Ad), ∀ u ∈ cellsA l, u.oneCell' = true
  | [], u, h => by cases h
  | a :: l, u, h => by
    rw [cellsA_cons] at h
    rcases List.mem_append.1 h with h | h
    · exact a.c_one u h
    · exact cellsA_one l u h
theorem cellsA_drop (l : List Ad) (k : Nat) : (cellsA l).drop (k * 17) = cellsA (l.drop k) := by
  by_cases h : k ≤ l.length
  · conv => lhs; rw [← List.take_append_drop k l, cellsA_app]
    exact List.drop_left' (by rw [cellsA_len, List.length_take]; congr 1; omega)
  · rw [List.drop_of_length_le (by rw [cellsA_len]; omega), List.drop_of_length_le (by omega)]; rfl
theorem cellsA_take (l : List Ad) (k : Nat) : (cellsA l).take (k * 17) = cellsA (l.take k) := by
  by_cases h : k ≤ l.length
  · conv => lhs; rw [← List.take_append_drop k l, cellsA_app]
    exact List.take_left' (by rw [cellsA_len, List.length_take]; congr 1; omega)
  · rw [List.take_of_length_le (by rw [cellsA_len]; omega), List.take_of_length_le (by omega)]
theorem cellsA_get {l : List Ad} {i : Nat} {a : Ad} (h : l[i]? = some a) : ((cellsA l).drop (i * 17)).take 17 = a.c := by
  rw [cellsA_drop]
  obtain ⟨hi, rfl⟩ := List.getElem?_eq_some_iff.1 h
  rw [List.drop_eq_getElem_cons hi, cellsA_cons]
  exact List.take_left' (Ad.c_len _)
theorem cellsA_set (l : List Ad) (i : Nat) (a : Ad) (hi : i < l.length) : splice (cellsA l) (i * 17) a.c = cellsA (l.set i a) := by
  unfold splice
  rw [cellsA_take, show i * 17 + a.c.length = (i + 1) * 17 by rw [a.c_len]; omega, cellsA_drop, List.set_eq_take_append_cons_drop, if_pos hi, cellsA_app, cellsA_cons]
theorem Mod.no {F : Nat → Prop} {a b : World} (h : Mod (fun _ => False) a b) : Mod F a b := h.mono fun _ f => f.elim
/-- a slice of addresses that can be read -/
def RdA (w : World) (v : Value) (l : List Ad) : Prop := Reads w v l.length (cellsA l)
/-- .. that lies in a block of its own -/
def RowA (w : World) (f : Nat → Prop) (v : Value) (l : List Ad) : Prop := Row w f 36 17 v l.length (cellsA l)
theorem RowA.rd {w : World} {f : Nat → Prop} {v : Value} {l : List Ad} (h : RowA w f v l) : RdA w v l := Row.reads h
theorem RdA.keep0 {w w' : World} {v : Value} {l : List Ad} (h : RdA w v l) (hm : Mod (fun _ => False) w w') : RdA w' v l := Reads.keep0 h hm
theorem RowA.keep0 {w w' : World} {f : Nat → Prop} {v : Value} {l : List Ad} (h : RowA w f v l) (hm : Mod (fun _ => False) w w') : RowA w' f v l := Row.keep h hm fun _ _ h => h
theorem RowA.mono {w : World} {f f' : Nat → Prop} {v : Value} {l : List Ad} (h : RowA w f v l) (hf : ∀ k, f k → f' k) : RowA w f' v l := Row.mono h hf
theorem RowA.nil (w : World) (f : Nat → Prop) : RowA w f (.slice none 0 0) [] := Row.nil w f _ _
/-- .. while blocks change that hold no addresses -/
def NotA (w : World) (F : Nat → Prop) : Prop := ∀ k, F k → ∀ cur z, w.heap[k]? ≠ some (.cells cur 36 z)
theorem RowA.keepT {w w' : World} {F f : Nat → Prop} {v : Value} {l : List Ad} (h : RowA w f v l) (hm : Mod F w w') (hF : NotA w F) : RowA w' f v l := by
  obtain ⟨⟨hl, h1⟩, h2⟩ := h
  refine ⟨⟨hl, ?_⟩, h2⟩
  rcases h1 with h1 | ⟨g, cap, cur, rfl, hb, hg, r⟩
  · exact .inl h1
  · exact .inr ⟨g, cap, cur, rfl, hb, hm.keep hg (fun hf => hF g hf _ _ hg), r⟩
theorem Blk.notA {w : World} {g : Nat} {t : TypeId} {cs : List Value} (h : Blk w g t cs) (ht : t ≠ 36) : NotA w (fun k => k = g) := fun k hk cur z e => by
  subst hk
  unfold Blk at h
  rw [h] at e
  injection e with e
  injection e with _ e2
  exact ht e2
/-- an element -/
theorem RdA.at {w : World} {v : Value} {l : List Ad} (h : RdA w v l) {j : Nat} (hj : j < l.length) : ∃ g o cap, v = .slice (some ⟨g, o, none⟩) l.length cap ∧ l.length ≤ cap ∧ cap ≤ maxLen ∧ ∀ i a, l[i]? = some a → w.rangeAt g (o + i * 17) a.c := by
  obtain ⟨ad, cap, rfl, h1, h2, h3⟩ := h
  obtain ⟨g, o, rfl, h4⟩ := h3 (by omega)
  refine ⟨g, o, cap, rfl, h1, h2, fun i a ha k u hu => ?_⟩
  rw [← cellsA_get ha, List.getElem?_take] at hu
  split at hu
  · rw [List.getElem?_drop] at hu
    have := h4 _ u hu
    rwa [← Nat.add_assoc] at this
  · cases hu
theorem Tryz.elA : Elem Tryz.prog 24 36 (.agg (adrC false z16).toArray) 17 17 := .mk' Tryz.underlying24 (by kernel_rfl) rfl
theorem Cmp_ad (a b : Ad) (w : World) : Calls Tryz.prog 81 #[.agg a.c.toArray, .agg b.c.toArray] w fun e w' => e = .returned (.int .i64 (a.cmp b)) ∧ Mod (fun _ => False) w w' := Cmp_any a.v b.v a.b b.b a.ok b.ok w
theorem Cmp_adg (a b : Ad) (w : World) : Calls Tryz.prog 81 #[.agg a.c.toArray, .agg b.c.toArray] w fun e w' => e = .returned (.int .i64 (a.cmp b)) ∧ Grew w w' := Cmp_anyg a.v b.v a.b b.b a.ok b.ok w
theorem Good_ad (a : Ad) (w : World) : Calls Tryz.prog 55 #[.agg a.c.toArray] w fun e w' => e = .returned (.bool a.good) ∧ Mod (fun _ => False) w w' := addrGood_any a.v a.b a.ok.1 w
theorem bytes_ad (a : Ad) (w : World) : Calls Tryz.prog 123 #[.agg a.c.toArray] w fun e w' => e = .returned (.string a.key) ∧ Mod (fun _ => False) w w' := by
  obtain ⟨v, b, ok⟩ := a
  cases v with
  | true => exact bytes6 b ok.1 w
  | false =>
    obtain ⟨x, y, z, u, r, rfl, hr⟩ := adr_four ok.1
    exact bytes4 x y z u r w
set_option maxRecDepth 100000 in
theorem Bytes_ad (a : Ad) (w : World) : Calls Tryz.prog 103 #[.agg a.c.toArray] w fun e w' => e = .returned (.string a.key) ∧ Mod (fun _ => False) w w' := by
  have HS := Lib.hid a.c_sz
  have HA := Lib.hid (Blk.new w 36 a.c)
  have HM : Hid (Mod (fun _ => False) w (w.alloc (.cells a.c.toArray 36 (0, 0)))) := Lib.hid ((Mod.refl _ _).alloc _)
  go_enter Tryz.func103, Tryz.ntmps103
  go_wp2_with (first | (refine wpList_load_blk rfl _ _ rfl w.heap.size 0 rfl 36 a.c a.c _ HA.out (List.take_of_length_le (Nat.le_refl _)) Tryz.underlying36 rfl HS.out ?_))
  refine (bytes_ad a _).mono ?_; rintro e w1 ⟨rfl, hm⟩
  have HM1 := Lib.hid (HM.out.trans hm fun _ f => f.elim)
  clear hm
  go_wp2
  go_returns
  exact ⟨rfl, HM1.out⟩
set_option maxRecDepth 100000 in
theorem key_ad (a : Ad) (w : World) : Calls Tryz.prog 54 #[.agg a.c.toArray] w fun e w' => e = .returned (.string a.key) ∧ Mod (fun _ => False) w w' := by
  have HS := Lib.hid a.c_sz
  have HA := Lib.hid (Blk.new w 36 a.c)
  have HM : Hid (Mod (fun _ => False) w (w.alloc (.cells a.c.toArray 36 (0, 0)))) := Lib.hid ((Mod.refl _ _).alloc _)
  go_enter Tryz.func54, Tryz.ntmps54
  go_wp2_with (first | (refine wpList_load_blk rfl _ _ rfl w.heap.size 0 rfl 36 a.c a.c _ HA.out (List.take_of_length_le (Nat.le_refl _)) Tryz.underlying36 rfl HS.out ?_))
  refine (Bytes_ad a _).mono ?_; rintro e w1 ⟨rfl, hm⟩
  have HM1 := Lib.hid (HM.out.trans hm fun _ f => f.elim)
  clear hm
  go_wp2
  go_returns
  exact ⟨rfl, HM1.out⟩
theorem Read_ad {a : Ad} (h : a.good = true) (w : World) : Calls Tryz.prog 83 #[.string a.key] w fun e w' => e = .returned (.tuple #[.agg a.c.toArray, .int .i64 0]) ∧ Mod (fun _ => False) w w' := by
  obtain ⟨h1, h2, h3⟩ := Ad.read_eq h
  have := addrRead_yes a.key a.key.size h1 rfl w
  rw [h2, h3] at this
  exact this
set_option maxRecDepth 100000 in
set_option maxHeartbeats 1000000 in
theorem Clone_ad (v : Value) (l : List Ad) (w : World) (hr : RdA w v l) (hn : l.length ≤ 3000) :
    Calls Tryz.prog 90 #[v] w fun e w' => ∃ v', e = .returned v' ∧ RowA w' (fun k => w.heap.size ≤ k) v' l ∧ Mod (fun _ => False) w w' := by
  obtain ⟨n, hln⟩ : ∃ n, n = l.length := ⟨_, rfl⟩
  obtain ⟨xs, hxs⟩ : ∃ xs, xs = cellsA l := ⟨_, rfl⟩
  have hl : xs.length = n * 17 := by rw [hxs, hln]; exact cellsA_len l
  have h1 : ∀ u ∈ xs, u.oneCell' = true := hxs ▸ cellsA_one l
  unfold RdA at hr
  unfold RowA
  rw [← hln, ← hxs] at hr ⊢
  rw [← hln] at hn
  clear hln hxs
  obtain ⟨ad, cp, rfl, hnc, hcm, hg⟩ := hr
  have HR : Hid (Reads (w.alloc (.cells #[] 36 (0, 0))) (.slice ad n cp) n xs) := Lib.hid ((show Reads w (.slice ad n cp) n xs from ⟨ad, cp, rfl, hnc, hcm, hg⟩).keep0 ((Mod.refl _ _).alloc _))
  have HE := Lib.hid (Row.empty w 36 17)
  have HL := Lib.hid hl
  have H1 := Lib.hid h1
  cases ad with
  | none =>
    have h0 : n = 0 := by
      by_cases h : 0 < n
      · obtain ⟨g, o, e, _⟩ := hg h
        cases e
      · omega
    subst h0
    have hx : xs = [] := List.eq_nil_of_length_eq_zero (by simpa using hl)
    clear hg
    have hE : ∀ w : World, (binOp .eql 24 (.slice none 0 cp) (.slice none 0 0)).run Tryz.prog w = .ok (.bool true) w := fun w => run_eql_slice_nil Tryz.underlying24 _ _ _ w
    go_enter Tryz.func90, Tryz.ntmps90
    go_wp2
    go_ret
    subst hx
    exact ⟨_, rfl, Row.nil _ _ _ _, Mod.refl _ _⟩
  | some a =>
    clear hg
    have hE : ∀ w : World, (binOp .eql 24 (.slice (some a) n cp) (.slice none 0 0)).run Tryz.prog w = .ok (.bool false) w := fun w => run_eql_slice_nil Tryz.underlying24 _ _ _ w
    go_enter Tryz.func90, Tryz.ntmps90
    go_wp2_with (at_builtin; refine wpList_append_reads Tryz.elA rfl (.tmp 5) (.tmp 6) rfl (fun k => w.heap.size ≤ k) _ 0 [] rfl HE.out _ n xs rfl HR.out HL.out H1.out (by omega) (by unfold maxLen; omega) ?_; intro v' w' h2 h3; have H2 := Lib.hid h2; have H3 := Lib.hid h3; clear h2 h3)
    go_ret
    refine ⟨_, rfl, ?_, ?_⟩
    · have h2 := H2.out
      rw [Nat.zero_add, List.nil_append] at h2
      exact h2.mono fun k hk => hk.elim (fun h => h) fun h => Nat.le_trans (by simp) h
    · exact ((Mod.refl (fun _ => False) w).alloc _).trans H3.out fun x hx => .inr hx
end Go.Proofs.YtcccdlmngddalaaGreat
