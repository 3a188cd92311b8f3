/- slices.DeleteFunc at addresses, with whatever closure: contract. -/
import Derived.Test.YtcccdlmngddalaaGreatGrB
import Derived.Test.YtcccdlmngddalaaGreatRowK
import Derived.Shelf.Abstract
namespace Go.Proofs.YtcccdlmngddalaaGreat
open Go.RowKit Go.Sort
set_option linter.unusedVariables false
set_option linter.unusedSimpArgs false
/-- what stays -/
def kp (ds : Nat → Bool) : Nat → List Ad → List Ad
  | _, [] => []
  | i, a :: l => (if ds i then [] else [a]) ++ kp ds (i + 1) l
theorem kp_app (ds : Nat → Bool) : ∀ (a b : List Ad) (i : Nat), kp ds i (a ++ b) = kp ds i a ++ kp ds (i + a.length) b
  | [], b, i => by simp [kp]
  | x :: a, b, i => by
    rw [List.cons_append, kp, kp, kp_app ds a b (i + 1), List.append_assoc, show i + 1 + a.length = i + (x :: a).length by simp; omega]
theorem kp_all (ds : Nat → Bool) : ∀ (l : List Ad) (i : Nat), (∀ t, t < l.length → ds (i + t) = false) → kp ds i l = l
  | [], _, _ => rfl
  | x :: l, i, h => by
    rw [kp, kp_all ds l (i + 1) fun t ht => by have := h (t + 1) (by simp; omega); rwa [show i + 1 + t = i + (t + 1) by omega], show ds i = false from h 0 (by simp)]
    rfl
theorem kp_len (ds : Nat → Bool) : ∀ (l : List Ad) (i : Nat), (kp ds i l).length ≤ l.length
  | [], _ => by simp [kp]
  | x :: l, i => by
    have := kp_len ds l (i + 1)
    rw [kp]
    split <;> simp <;> omega
theorem kp_step (ds : Nat → Bool) (l : List Ad) (j : Nat) (x : Ad) (hx : l[j]? = some x) : kp ds 0 (l.take (j + 1)) = kp ds 0 (l.take j) ++ (if ds j then [] else [x]) := by
  have hj := (List.getElem?_eq_some_iff.1 hx).1
  rw [List.take_add_one, hx, kp_app, Nat.zero_add, List.length_take, show min j l.length = j by omega]
  simp [kp]
/-- what is asked of the closure: J i: i elements have been shown to it -/
structure Del (g : FuncId) (cb : Array Value) (l : List Ad) (ds : Nat → Bool) (J : Nat → World → Prop) (F R : Nat → Prop) : Prop where
  eg : ∀ args w, (callFunc g args).run Tryz.prog w = .ok (.enter g args) w
  call : ∀ i x W, l[i]? = some x → J i W → Calls Tryz.prog g (#[.agg x.c.toArray] ++ cb) W fun e W' => e = .returned (.bool (ds i)) ∧ J (i + 1) W' ∧ Mod F W W'
  keep : ∀ i W W', J i W → Mod R W W' → J i W'
set_option maxRecDepth 100000 in
set_option maxHeartbeats 400000 in
theorem IndexFunc_any {w : World} {f : Nat → Prop} {v : Value} {l : List Ad} {g : FuncId} {cb : Array Value} {ds : Nat → Bool} {J : Nat → World → Prop} {F R : Nat → Prop} (D : Del g cb l ds J F R) (h : RowA w f v l) (hF : ∀ k, F k → ¬ v.ownBlock = some k) (h0 : J 0 w) :
    Calls Tryz.prog 128 #[v, .func (.func g) #[] cb] w fun e w' => (∃ i : Nat, i < l.length ∧ ds i = true ∧ (∀ t, t < i → ds t = false) ∧ e = .returned (.int .i64 (i : Int)) ∧ J (i + 1) w' ∧ Mod F w w') ∨
      ((∀ t, t < l.length → ds t = false) ∧ e = .returned (.int .i64 (-1)) ∧ J l.length w' ∧ Mod F w w') := by
  have eg := D.eg
  obtain ⟨n, hn⟩ : ∃ n, n = l.length := ⟨_, rfl⟩
  obtain ⟨ad, cap, rfl, hnc, hcm, hg⟩ := Row.form h
  unfold maxLen at hcm
  rw [← hn] at hnc ⊢
  have HR : Hid (∀ wr, Mod F w wr → ∀ j x, l[j]? = some x → ∃ g0, ad = some ⟨g0, 0, none⟩ ∧ wr.rangeAt g0 (j * 17) x.c) := Lib.hid fun wr hm j x hx => by
    obtain ⟨g0, e0, _, _, hc⟩ := hg (by have := (List.getElem?_eq_some_iff.1 hx).1; omega)
    subst e0
    refine ⟨g0, rfl, fun i u hu => ?_⟩
    rw [← cellsA_get hx, List.getElem?_take] at hu
    split at hu
    · rw [List.getElem?_drop] at hu
      exact hm.cell (fun hf => hF _ hf rfl) (hc _ u hu)
    · cases hu
  have HN := Lib.hid hn
  have HJ0 := Lib.hid h0
  have HD := Lib.hid D
  clear hg hn h h0 D hF
  go_enter Tryz.func128, Tryz.ntmps128
  go_wp2_with fail
  go_loopw [8] (fun iv wr => ∃ j : Nat, j ≤ n ∧ iv = .int .i64 (j : Int) ∧ (∀ t, t < j → ds t = false) ∧ J j wr ∧ Mod F w wr) (fun iv _ => n - (intOf iv).toNat)
  case atStart => exact ⟨0, Nat.zero_le _, rfl, fun t ht => by omega, HJ0.out, Mod.refl _ _⟩
  case round =>
    obtain ⟨j, hj, rfl, hall, hJ, hm⟩ := hrel
    have HJ := Lib.hid hJ
    have HM := Lib.hid hm
    have HALL := Lib.hid hall
    clear hJ hm hall
    by_cases hlt : j < n
    · obtain ⟨x, hx⟩ : ∃ x, l[j]? = some x := ⟨_, List.getElem?_eq_getElem (by rw [← HN.out]; exact hlt)⟩
      obtain ⟨g0, e0, hr⟩ := HR.out wr HM.out j x hx
      subst e0
      have HRA := Lib.hid hr
      have HXS := Lib.hid x.c_sz
      have HC := Lib.hid (HD.out.call j x wr hx HJ.out)
      clear hx hr
      obtain ⟨b, hb⟩ : ∃ b, b = ds j := ⟨_, rfl⟩
      rw [← hb] at HC
      have HB := Lib.hid hb
      clear hb
      cases b with
      | true =>
        go_wp2_with (first
          | (refine wpList_load_midG rfl _ _ rfl g0 (j * 17) rfl x.c _ HRA.out Tryz.underlying36 rfl HXS.out ?_)
          | (go_at_fn g; refine HC.out.mono ?_; rintro e W2 ⟨rfl, hj2, hm2⟩; have HJ2 := Lib.hid hj2; have HM2 := Lib.hid hm2; clear hj2 hm2))
        go_ret
        exact .inl ⟨j, hlt, HB.out.symm, HALL.out, rfl, HJ2.out, HM.out.trans HM2.out fun k hk => .inl hk⟩
      | false =>
        go_wp2_with (first
          | (refine wpList_load_midG rfl _ _ rfl g0 (j * 17) rfl x.c _ HRA.out Tryz.underlying36 rfl HXS.out ?_)
          | (go_at_fn g; refine HC.out.mono ?_; rintro e W2 ⟨rfl, hj2, hm2⟩; have HJ2 := Lib.hid hj2; have HM2 := Lib.hid hm2; clear hj2 hm2))
        go_roundw
        case rel => exact ⟨j + 1, by omega, by go_num, fun t ht => by rcases Nat.lt_succ_iff_lt_or_eq.1 ht with h | rfl; exact HALL.out t h; exact HB.out.symm, HJ2.out, HM.out.trans HM2.out fun k hk => .inl hk⟩
        case measure => simp [intOf]; omega
    · obtain rfl : j = n := by omega
      go_wp2
      go_ret
      exact .inr ⟨HALL.out, rfl, HJ.out, HM.out⟩
end Go.Proofs.YtcccdlmngddalaaGreat
namespace Go.Proofs.YtcccdlmngddalaaGreat
open Go.RowKit Go.Sort
set_option linter.unusedVariables false
set_option linter.unusedSimpArgs false
/-- .. behind j elements, one of them struck, at least -/
structure DelK (w wr : World) (f F R : Nat → Prop) (v : Value) (l : List Ad) (ds : Nat → Bool) (J : Nat → World → Prop) (i j : Nat) (arr : List Ad) : Prop where
  len : arr.length = l.length
  row : RowA wr f v arr
  i_ : i = (kp ds 0 (l.take j)).length
  lt : i < j
  front : arr.take i = kp ds 0 (l.take j)
  back : arr.drop j = l.drop j
  jj : J j wr
  mod : Mod (fun k => F k ∨ v.ownBlock = some k) w wr
theorem DelK.at {w wr : World} {f F R : Nat → Prop} {v : Value} {l : List Ad} {ds : Nat → Bool} {J : Nat → World → Prop} {i j : Nat} {arr : List Ad} (h : DelK w wr f F R v l ds J i j arr) {x : Ad} (hx : l[j]? = some x) : arr[j]? = some x := by
  have := congrArg (fun l => l[0]?) h.back
  simp only [List.getElem?_drop, Nat.add_zero] at this
  rw [this, hx]
theorem rowF {w w' : World} {f F : Nat → Prop} {v : Value} {l : List Ad} (h : RowA w f v l) (hm : Mod F w w') (hF : ∀ k, F k → ¬ v.ownBlock = some k) : RowA w' f v l := by
  obtain ⟨⟨hl, h1⟩, h2⟩ := h
  refine ⟨⟨hl, ?_⟩, h2⟩
  rcases h1 with h1 | ⟨g, cap, cur, e, hb, hg, r⟩
  · exact .inl h1
  · exact .inr ⟨g, cap, cur, e, hb, hm.keep hg (fun hf => hF g hf (by rw [e]; rfl)), r⟩
set_option maxRecDepth 100000 in
set_option maxHeartbeats 400000 in
theorem DeleteFunc_any {w : World} {f : Nat → Prop} {v : Value} {l : List Ad} {g : FuncId} {cb : Array Value} {ds : Nat → Bool} {J : Nat → World → Prop} {F R : Nat → Prop} (D : Del g cb l ds J F R) (h : RowA w f v l) (hF : ∀ k, F k → ¬ v.ownBlock = some k) (hFw : ∀ k, F k → k < w.heap.size)
    (hR : ∀ k, v.ownBlock = some k → R k) (hRw : ∀ k, w.heap.size ≤ k → R k) (hn : l.length ≤ 5000) (h0 : J 0 w) :
    Calls Tryz.prog 91 #[v, .func (.func g) #[] cb] w fun e w' => ∃ v', e = .returned v' ∧ RowA w' f v' (kp ds 0 l) ∧ J l.length w' ∧ Mod (fun k => F k ∨ v.ownBlock = some k) w w' := by
  have eg := D.eg
  obtain ⟨n, hnl⟩ : ∃ n, n = l.length := ⟨_, rfl⟩
  rw [← hnl] at hn
  have HI := Lib.hid (IndexFunc_any D h hF h0)
  rw [← hnl] at HI
  obtain ⟨ad, cap, rfl, hnc, hcm, hg⟩ := Row.form h
  unfold maxLen at hcm
  rw [← hnl] at hnc HI h hF hR ⊢
  have HN := Lib.hid hnl
  have HD := Lib.hid D
  have HH := Lib.hid h
  have HF := Lib.hid hF
  have HFW := Lib.hid hFw
  have HRR := Lib.hid hR
  have HRW := Lib.hid hRw
  have HAD : Hid (0 < n → ∃ g0, ad = some ⟨g0, 0, none⟩ ∧ g0 < w.heap.size) := Lib.hid fun h => by obtain ⟨g0, e, _, hl, _⟩ := hg (by rw [← hnl]; exact h); exact ⟨g0, e, hl⟩
  clear hg hnl h h0 D hF hFw hR hRw
  go_enter Tryz.func91, Tryz.ntmps91
  go_wp2_with fail
  refine HI.out.mono ?_
  rintro e w1 (⟨i, hi, hdi, hall, rfl, hj1, hm1⟩ | ⟨hall, rfl, hj1, hm1⟩)
  · obtain ⟨g0, rfl, hg0⟩ := HAD.out (by omega)
    have HDI := Lib.hid hdi
    have hrow1 : RowA w1 f (.slice (some ⟨g0, 0, none⟩) n cap) l := rowF HH.out hm1 HF.out
    have HK0 : Hid (DelK w w1 f F R (.slice (some ⟨g0, 0, none⟩) n cap) l ds J i (i + 1) l) := Lib.hid (by
      have hx : l[i]? = some l[i] := List.getElem?_eq_getElem (by rw [← HN.out]; exact hi)
      have e1 : kp ds 0 (l.take i) = l.take i := kp_all ds _ _ fun t ht => by rw [List.length_take] at ht; rw [Nat.zero_add]; exact hall t (by omega)
      have e2 : kp ds 0 (l.take (i + 1)) = l.take i := by rw [kp_step ds l i _ hx, hdi, e1]; simp
      exact ⟨rfl, hrow1, by rw [e2, List.length_take]; have := HN.out; omega, by omega, e2.symm, rfl, hj1, hm1.mono fun k hk => .inl (.inl hk)⟩)
    have HS1 : Hid (w.heap.size ≤ w1.heap.size) := Lib.hid hm1.size
    clear hdi hall hj1 hm1 hrow1
    have hne : ((i : Int) == -1) = false := by simp
    go_wp2_with fail
    go_loopw [5, 6] (fun iv jv wr => ∃ (i j : Nat) (arr : List Ad), i ≤ n ∧ j ≤ n ∧ iv = .int .i64 (i : Int) ∧ jv = .int .i64 (j : Int) ∧ DelK w wr f F R (.slice (some ⟨g0, 0, none⟩) n cap) l ds J i j arr) (fun _ jv _ => n - (intOf jv).toNat)
    case atStart => exact ⟨i, i + 1, l, by omega, by omega, rfl, by first | rfl | go_num, HK0.out⟩
    case round =>
      clear HK0 HDI hi
      obtain ⟨i, j, arr, hin, hj, rfl, rfl, hk⟩ := hrel
      have HK := Lib.hid hk
      clear hk
      have hij := HK.out.lt
      by_cases hlt : j < n
      · obtain ⟨x, hx⟩ : ∃ x, l[j]? = some x := ⟨_, List.getElem?_eq_getElem (by rw [← HN.out]; exact hlt)⟩
        have hxa := HK.out.at hx
        have HRA : Hid (wr.rangeAt g0 (j * 17) x.c) := Lib.hid (by
          obtain ⟨g2, o2, cap2, e, _, _, hc⟩ := HK.out.row.rd.at (j := j) (by rw [HK.out.len, ← HN.out]; exact hlt)
          injection e with e
          injection e with e
          injection e with e3 e4
          subst e3 e4
          have := hc j x hxa
          rwa [Nat.zero_add] at this)
        have HXG := Lib.hid hx
        have HXS := Lib.hid x.c_sz
        have HXL := Lib.hid x.c_len
        have HX1 := Lib.hid x.c_one
        have HNB0 := Lib.hid (Blk.new wr 36 (adrC false z16))
        have HFIT : Hid (0 + x.c.length ≤ (adrC false z16).length) := Lib.hid (by rw [x.c_len]; decide)
        have HFIT2 : Hid (i * 17 + x.c.length ≤ (cellsA arr).length) := Lib.hid (by rw [x.c_len, cellsA_len, HK.out.len, ← HN.out]; omega)
        have HSW : Hid (w.heap.size ≤ wr.heap.size) := Lib.hid HK.out.mod.size
        clear hx hxa
        obtain ⟨b, hb⟩ : ∃ b, b = ds j := ⟨_, rfl⟩
        have HB := Lib.hid hb
        clear hb
        cases b with
        | true =>
          go_wp2_with (first
            | (refine wpList_load_midG rfl _ _ rfl g0 (j * 17) rfl x.c _ HRA.out Tryz.underlying36 rfl HXS.out ?_)
            | (refine wpList_store_blk rfl _ _ _ rfl wr.heap.size 0 36 (adrC false z16) x.c rfl rfl HNB0.out HFIT.out HXS.out HX1.out ?_; intro w3 HB3 HM3; have HBB := Lib.hid (splice_all HB3.out (by rw [x.c_len]; rfl)); have HM4 : Hid (Mod (fun _ => False) wr w3) := Lib.hid (((Mod.refl _ _).alloc _).trans HM3.out fun x hx => .inr (by omega)); have HC := Lib.hid (HD.out.call j x w3 HXG.out (HD.out.keep j wr w3 HK.out.jj (HM4.out.mono fun _ h => h.elim))))
            | (refine wpList_load_blk rfl _ _ rfl wr.heap.size 0 rfl 36 x.c x.c _ HBB.out (List.take_of_length_le (Nat.le_refl _)) Tryz.underlying36 rfl HXS.out ?_)
            | (go_at_fn g; refine HC.out.mono ?_; rintro e W2 ⟨rfl, hj2, hm2⟩; rw [← HB.out]; have HJ2 := Lib.hid hj2; have HM2 := Lib.hid hm2; clear hj2 hm2))
          go_roundw
          case rel =>
            have hm3 : Mod F wr W2 := (HM4.out.mono fun _ h => h.elim).trans HM2.out fun k hk => .inl hk
            refine ⟨i, j + 1, arr, by omega, by omega, rfl, by go_num, HK.out.len, ?_, ?_, by omega, ?_, ?_, HJ2.out, ?_⟩
            · exact rowF HK.out.row hm3 HF.out
            · rw [kp_step ds l j x HXG.out, ← HB.out]; simpa using HK.out.i_
            · rw [kp_step ds l j x HXG.out, ← HB.out]; simpa using HK.out.front
            · rw [← List.drop_drop, ← List.drop_drop, HK.out.back]
            · exact HK.out.mod.trans hm3 fun k hk => .inl (.inl hk)
          case measure => simp [intOf]; omega
        | false =>
          go_wp2_with (first
            | (refine wpList_load_midG rfl _ _ rfl g0 (j * 17) rfl x.c _ HRA.out Tryz.underlying36 rfl HXS.out ?_)
            | (refine wpList_store_blk rfl _ _ _ rfl wr.heap.size 0 36 (adrC false z16) x.c rfl rfl HNB0.out HFIT.out HXS.out HX1.out ?_; intro w3 HB3 HM3; have HBB := Lib.hid (splice_all HB3.out (by rw [x.c_len]; rfl)); have HM4 : Hid (Mod (fun _ => False) wr w3) := Lib.hid (((Mod.refl _ _).alloc _).trans HM3.out fun x hx => .inr (by omega)); have HC := Lib.hid (HD.out.call j x w3 HXG.out (HD.out.keep j wr w3 HK.out.jj (HM4.out.mono fun _ h => h.elim))))
            | (go_at_fn g; refine HC.out.mono ?_; rintro e W2 ⟨rfl, hj2, hm2⟩; rw [← HB.out]; have HJ2 := Lib.hid hj2; have HM2 := Lib.hid hm2; clear hj2 hm2; have HBB2 := Lib.hid (HBB.out.keep HM2.out fun hf => by have := HFW.out _ hf; have := HSW.out; omega); have HRW2 : Hid (RowA W2 f (.slice (some ⟨g0, 0, none⟩) n cap) arr) := Lib.hid (rowF HK.out.row ((HM4.out.mono fun _ h => h.elim).trans HM2.out fun k hk => .inl hk) HF.out))
            | (refine wpList_load_blk rfl _ _ rfl wr.heap.size 0 rfl 36 x.c x.c _ HBB.out (List.take_of_length_le (Nat.le_refl _)) Tryz.underlying36 rfl HXS.out ?_)
            | (refine wpList_load_blk rfl _ _ rfl wr.heap.size 0 rfl 36 x.c x.c _ HBB2.out (List.take_of_length_le (Nat.le_refl _)) Tryz.underlying36 rfl HXS.out ?_)
            | (refine wpList_store_rowK rfl _ _ _ rfl HRW2.out g0 (i * 17) x.c rfl rfl rfl HFIT2.out HXS.out HX1.out ?_; intro w5 HR5 HM5))
          go_roundw
          case rel =>
            have hm3 : Mod F wr W2 := (HM4.out.mono fun _ h => h.elim).trans HM2.out fun k hk => .inl hk
            have hia : i < arr.length := by have := HK.out.len; have := HN.out; omega
            refine ⟨i + 1, j + 1, arr.set i x, by omega, by omega, by go_num, by go_num, by rw [List.length_set]; exact HK.out.len, ?_, ?_, by omega, ?_, ?_, HD.out.keep _ _ _ HJ2.out (HM5.out.mono fun k hk => .inl (HRR.out k (by rw [hk]; rfl))), ?_⟩
            · unfold RowA
              rw [List.length_set, ← cellsA_set arr i x hia]
              exact HR5.out
            · rw [kp_step ds l j x HXG.out, ← HB.out]; simp [HK.out.i_.symm]
            · rw [kp_step ds l j x HXG.out, ← HB.out, ← HK.out.front, List.take_set, List.take_add_one, List.getElem?_eq_getElem hia]
              rw [List.set_append_right _ _ (by rw [List.length_take]; omega)]
              simp [List.length_take, show min i arr.length = i by omega]
            · rw [List.drop_set_of_lt (by omega), ← List.drop_drop, ← List.drop_drop, HK.out.back]
            · exact (HK.out.mod.trans hm3 fun k hk => .inl (.inl hk)).trans HM5.out fun k hk => .inl (.inr (by rw [hk]; rfl))
          case measure => simp [intOf]; omega
      · obtain rfl : j = n := by omega
        have HRD := Lib.hid HK.out.row.rd
        have HAL : Hid (arr.length = j) := Lib.hid (by rw [HK.out.len, ← HN.out])
        have HILE : Hid (i ≤ j) := Lib.hid (by omega)
        have HROW : Hid (Row wr f 36 17 (.slice (some ⟨g0, 0, none⟩) j cap) j (cellsA arr)) := Lib.hid (by have := HK.out.row; unfold RowA at this; rwa [HAL.out] at this)
        go_wp2_with (first
          | (refine wpList_val rfl (loV 17 (.slice (some ⟨g0, 0, none⟩) j cap) i) (exec_slice_lo Tryz.elA rfl (Row.reads HROW.out) rfl i rfl HILE.out _) ?_)
          | (refine wpList_clear_lo rfl Tryz.elA _ rfl (adrC_one false z16) HROW.out i HILE.out rfl ?_; intro w5 HR5 HM5)
          | (refine wpList_val rfl (hiV (.slice (some ⟨g0, 0, none⟩) j cap) i) (exec_slice_hi Tryz.elA rfl (Row.reads HROW.out) rfl i rfl HILE.out _) ?_))
        go_ret
        refine ⟨_, rfl, ?_, ?_, HK.out.mod.trans HM5.out fun k hk => .inl (.inr hk)⟩
        · have := HR5.out
          rw [cellsA_take, HK.out.front, HN.out, List.take_length] at this
          have e : (kp ds 0 l).length = i := by rw [HK.out.i_, HN.out, List.take_length]
          unfold RowA
          rw [e]
          exact this
        · exact HD.out.keep _ _ _ HK.out.jj (HM5.out.mono fun k hk => .inl (HRR.out k hk))
  · have hall' : kp ds 0 l = l := kp_all ds l 0 fun t ht => by rw [Nat.zero_add]; exact hall t (by rw [HN.out]; exact ht)
    have HA := Lib.hid hall'
    have HJ1 := Lib.hid hj1
    have HM1 := Lib.hid hm1
    clear hall hall' hj1 hm1
    go_wp2
    go_ret
    refine ⟨_, rfl, ?_, HJ1.out, HM1.out.mono fun k hk => .inl (.inl hk)⟩
    rw [HA.out]
    exact rowF HH.out HM1.out HF.out
end Go.Proofs.YtcccdlmngddalaaGreat
