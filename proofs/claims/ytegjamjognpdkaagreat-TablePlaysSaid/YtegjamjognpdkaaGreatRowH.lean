/- table.good: contract. -/
import Derived.Test.YtegjamjognpdkaaGreatRowG
namespace Go.Proofs.YtegjamjognpdkaaGreat
open Go.RowKit
set_option linter.unusedVariables false
set_option linter.unusedSimpArgs false
theorem rows_get {w : World} {rs : List TRow} {sv : Nat → Value} {g o j : Nat} {r : TRow} (hc : ∀ i u, (cellsR sv 0 rs)[i]? = some u → w.cell? ⟨g, o + i, none⟩ = some u) (hok : rowsOk rs) (hj : rs[j]? = some r) : w.rangeAt g (o + j * 20) (r.c (sv j)) := fun i u hu => by
  have h := cellsR_get sv rs 0 j r hok hj
  rw [Nat.zero_add] at h
  rw [← h, List.getElem?_take] at hu
  split at hu
  · rw [List.getElem?_drop] at hu
    have := hc _ _ hu
    rwa [← Nat.add_assoc] at this
  · cases hu
theorem stepT_no (rs : List TRow) (j : Nat) (r : TRow) (hj : rs[j]? = some r) (h : oneT r = false) : goodT rs = false := by
  have hlt := (List.getElem?_eq_some_iff.1 hj).1
  unfold goodT
  rw [allTo_false hlt]
  · rfl
  · unfold stepT
    rw [List.getD_eq_getElem?_getD, hj]
    simp [h]
theorem stepT_cmp (rs : List TRow) (j : Nat) (r q : TRow) (hj : rs[j + 1]? = some r) (hq : rs[j]? = some q) (h : cmpT q r ≠ -1) : goodT rs = false := by
  have hlt := (List.getElem?_eq_some_iff.1 hj).1
  unfold goodT
  rw [allTo_false hlt]
  · rfl
  · unfold stepT
    rw [List.getD_eq_getElem?_getD, hj, List.getD_eq_getElem?_getD, Nat.add_sub_cancel, hq]
    simp [h]
theorem stepT_0 (rs : List TRow) (r : TRow) (hj : rs[0]? = some r) (h : oneT r = true) : stepT rs 0 = true := by
  unfold stepT
  rw [List.getD_eq_getElem?_getD, hj]
  simp [h]
theorem stepT_s (rs : List TRow) (j : Nat) (r q : TRow) (hj : rs[j + 1]? = some r) (hq : rs[j]? = some q) (h : oneT r = true) (hc : cmpT q r = -1) : stepT rs (j + 1) = true := by
  unfold stepT
  rw [List.getD_eq_getElem?_getD, hj, List.getD_eq_getElem?_getD, Nat.add_sub_cancel, hq]
  simp [h, hc]
theorem goodT_yes (rs : List TRow) (h : ∀ j, j < rs.length → stepT rs j = true) : goodT rs = decide (rs.length ≤ 2048) := by
  unfold goodT
  rw [allTo_true h]
  rfl
set_option maxRecDepth 100000 in
set_option maxHeartbeats 2000000 in
theorem good_any (v : Value) (rs : List TRow) (sv : Nat → Value) (w : World) (h : RowsAt w v rs sv) :
    Calls Tryz.prog 20 #[v] w fun e w' => e = .returned (.bool (goodT rs)) ∧ Mod (fun _ => False) w w' := by
  obtain ⟨⟨ad, cp, rfl, hnc, hcm, hg⟩, hok, hnx⟩ := h
  unfold maxLen at hcm
  have HG := Lib.hid hg
  have HOK := Lib.hid hok
  have HNX := Lib.hid hnx
  have HRS := Lib.hid rowSz
  obtain ⟨n, hn⟩ : ∃ n, n = rs.length := ⟨_, rfl⟩
  rw [← hn] at HG hnc ⊢
  have HL := Lib.hid hn
  clear hg hok hnx hn
  go_enter Tryz.func20, Tryz.ntmps20
  go_wp2_with fail
  go_loopw [7] (fun i wr => ∃ j : Nat, j ≤ n ∧ i = .int .i64 (j : Int) ∧ Mod (fun _ => False) w wr ∧ ∀ t, t < j → stepT rs t = true) (fun i _ => n - (intOf i).toNat)
  case atStart => exact ⟨0, Nat.zero_le _, rfl, Mod.refl _ _, fun t ht => by omega⟩
  case round =>
    obtain ⟨j, hj, rfl, hm, hall⟩ := hrel
    have HM := Lib.hid hm
    have HALL := Lib.hid hall
    clear hm hall
    by_cases hlt : j < n
    · obtain ⟨g, o, rfl, hcg⟩ := HG.out (by omega)
      obtain ⟨r, hr⟩ : ∃ r, rs[j]? = some r := ⟨_, List.getElem?_eq_getElem (by have := HL.out; omega)⟩
      have HR := Lib.hid hr
      have HRA := Lib.hid (keepRange HM.out (rows_get hcg HOK.out hr))
      have HCG := Lib.hid hcg
      have HO := Lib.hid (HOK.out r (List.mem_of_getElem? hr))
      have HN := Lib.hid ((HNX.out j r hr).keep0 HM.out)
      have HRZ : Hid ((Tryz.prog.info? 28).map (·.size) = some (r.c (sv j)).length) := Lib.hid (by rw [TRow.c, rowC_len _ _ _ _ _ HO.out.1]; exact HRS.out)
      have HONE : Hid (∀ u ∈ r.c (sv j), u.oneCell' = true) := Lib.hid (rowC_one _ _ _ _ _ (by obtain ⟨_, _, e, _⟩ := HN.out; rw [e]; rfl))
      have HFIT : Hid (0 + (r.c (sv j)).length ≤ (rowC 0 false z16 0 (.slice none 0 0)).length) := Lib.hid (by rw [TRow.c, rowC_len _ _ _ _ _ HO.out.1, rowC_len _ _ _ _ _ rfl]; decide)
      have HNB := Lib.hid (Blk.new wr 28 (rowC 0 false z16 0 (.slice none 0 0)))
      clear hr hcg
      go_wp2_with (first | (refine wpList_load_midG rfl _ _ rfl g (o + j * 20) rfl (r.c (sv j)) _ HRA.out Tryz.underlying28 rfl HRZ.out ?_) | (refine wpList_store_blk rfl _ _ _ rfl wr.heap.size 0 28 (rowC 0 false z16 0 (.slice none 0 0)) (r.c (sv j)) rfl rfl HNB.out HFIT.out HRZ.out HONE.out ?_; intro w3 HB3 HM3))
      have HB := Lib.hid (splice_all HB3.out (by rw [TRow.c, rowC_len _ _ _ _ _ HO.out.1, rowC_len _ _ _ _ _ rfl])).drew
      have hm3 : Mod (fun _ => False) wr w3.drew := (((Mod.refl _ _).alloc _).trans HM3.out fun x hx => .inr (by omega)).drew
      have HM4 := Lib.hid (HM.out.trans hm3 fun _ f => f.elim)
      have HN4 := Lib.hid (HN.out.keep0 hm3)
      obtain ⟨ps, hps⟩ : ∃ ps, ps = wr.heap.size := ⟨_, rfl⟩
      rw [← hps] at HB
      try rw [← hps]
      clear hps HNB HB3 HM3 hm3 HN HRA HFIT HM
      obtain ⟨G, hG⟩ : ∃ G, G = oneT r := ⟨_, rfl⟩
      have HHG := Lib.hid hG
      clear hG
      cases j with
      | zero =>
        refine wp_region_plan [] [(0, 1), (1, 2), (2, 0), (3, 0), (4, 0), (5, 0), (6, 0), (7, 0), (8, 0), (9, 0), (10, 0), (11, 1), (12, 1), (13, 2), (14, 0), (15, 0), (16, 0)] (fun w' : World => Blk w' ps 28 (r.c (sv 0)) ∧ True) (by kernel_rfl) (by kernel_rfl) (fun d _ _ _ _ h => by cases d <;> exact h) ?_
        repeat (first | (refine plan_skip rfl rfl ?_; simp only [List.getElem_toArray, List.getElem_cons_succ, List.getElem_cons_zero, Act.put, List.setIfInBounds_toArray, List.set_cons_zero, List.set_cons_succ]) | (refine plan_pass2 rfl rfl ?_; simp only [List.getElem_toArray, List.getElem_cons_succ, List.getElem_cons_zero, Act.put, List.setIfInBounds_toArray, List.set_cons_zero, List.set_cons_succ]) | (refine plan_pass3 rfl rfl ?_; simp only [List.getElem_toArray, List.getElem_cons_succ, List.getElem_cons_zero, Act.put, List.setIfInBounds_toArray, List.set_cons_zero, List.set_cons_succ]) | (refine plan_take (v := ?_) rfl rfl ?_ ?_; rotate_left; (focus (intro w0; go_simp; try with_reducible rfl)); simp only [List.getElem_toArray, List.getElem_cons_succ, List.getElem_cons_zero, Act.put, List.setIfInBounds_toArray, List.set_cons_zero, List.set_cons_succ]) | fail )
        (refine plan_held (v := .agg (r.c (sv 0)).toArray) rfl rfl ⟨HB.out.drew, trivial⟩ (fun w0 h0 => exec_load_blk _ _ rfl ps 0 rfl 28 (r.c (sv 0)) (r.c (sv 0)) _ w0 h0.1 (List.take_of_length_le (Nat.le_refl _)) Tryz.underlying28 rfl HRZ.out) ?_; try simp only [List.getElem_toArray, List.getElem_cons_succ, List.getElem_cons_zero, Act.put, List.setIfInBounds_toArray, List.set_cons_zero, List.set_cons_succ])
        repeat (first | (refine plan_skip rfl rfl ?_; simp only [List.getElem_toArray, List.getElem_cons_succ, List.getElem_cons_zero, Act.put, List.setIfInBounds_toArray, List.set_cons_zero, List.set_cons_succ]) | (refine plan_pass2 rfl rfl ?_; simp only [List.getElem_toArray, List.getElem_cons_succ, List.getElem_cons_zero, Act.put, List.setIfInBounds_toArray, List.set_cons_zero, List.set_cons_succ]) | (refine plan_pass3 rfl rfl ?_; simp only [List.getElem_toArray, List.getElem_cons_succ, List.getElem_cons_zero, Act.put, List.setIfInBounds_toArray, List.set_cons_zero, List.set_cons_succ]) | (refine plan_take (v := ?_) rfl rfl ?_ ?_; rotate_left; (focus (intro w0; go_simp; try with_reducible rfl)); simp only [List.getElem_toArray, List.getElem_cons_succ, List.getElem_cons_zero, Act.put, List.setIfInBounds_toArray, List.set_cons_zero, List.set_cons_succ]) | fail )
        (refine plan_do rfl rfl fun K hK => ?_; try simp only [List.getElem_toArray, List.getElem_cons_succ, List.getElem_cons_zero])
        go_simp
        refine (goodRow_any r (sv 0) HO.out _ (show Reads w3.drew (sv 0) r.next.length (ints r.next) from HN4.out)).mono ?_; rintro e w4 ⟨rfl, hm⟩
        rw [← HHG.out]
        have HB4 := Lib.hid (HB.out.keep hm fun f => f)
        have HM5 := Lib.hid (HM4.out.trans hm fun _ f => f.elim)
        refine hK _ _ ⟨HB4.out, trivial⟩ ?_
        clear hK K hm
        cases G with
        | true =>
          have HS := Lib.hid (stepT_0 rs r HR.out HHG.out.symm)
          try simp only [List.getElem_toArray, List.getElem_cons_succ, List.getElem_cons_zero, Act.put, List.setIfInBounds_toArray, List.set_cons_zero, List.set_cons_succ]
          repeat (first | (refine plan_skip rfl rfl ?_; simp only [List.getElem_toArray, List.getElem_cons_succ, List.getElem_cons_zero, Act.put, List.setIfInBounds_toArray, List.set_cons_zero, List.set_cons_succ]) | (refine plan_pass2 rfl rfl ?_; simp only [List.getElem_toArray, List.getElem_cons_succ, List.getElem_cons_zero, Act.put, List.setIfInBounds_toArray, List.set_cons_zero, List.set_cons_succ]) | (refine plan_pass3 rfl rfl ?_; simp only [List.getElem_toArray, List.getElem_cons_succ, List.getElem_cons_zero, Act.put, List.setIfInBounds_toArray, List.set_cons_zero, List.set_cons_succ]) | (refine plan_take (v := ?_) rfl rfl ?_ ?_; rotate_left; (focus (intro w0; go_simp; try with_reducible rfl)); simp only [List.getElem_toArray, List.getElem_cons_succ, List.getElem_cons_zero, Act.put, List.setIfInBounds_toArray, List.set_cons_zero, List.set_cons_succ]) | (refine plan_held (v := ?_) rfl rfl ⟨HB4.out, trivial⟩ ?_ ?_; rotate_left; (focus (intro w0 hSw; (try dsimp only at hSw); go_split_ands; go_simp; try with_reducible rfl)); simp only [List.getElem_toArray, List.getElem_cons_succ, List.getElem_cons_zero, Act.put, List.setIfInBounds_toArray, List.set_cons_zero, List.set_cons_succ])  | (refine plan_skip1 rfl rfl ⟨HB4.out, trivial⟩ ?_; simp only [List.getElem_toArray, List.getElem_cons_succ, List.getElem_cons_zero, Act.put, List.setIfInBounds_toArray, List.set_cons_zero, List.set_cons_succ]))
          refine plan_nil ?_
          go_wp2
          go_roundw
          case rel => exact ⟨1, by omega, by go_num, HM5.out, fun t ht => by rw [show t = 0 by omega]; exact HS.out⟩
          case measure => simp [intOf]; omega
        | false =>
          have HS := Lib.hid (stepT_no rs 0 r HR.out HHG.out.symm)
          try simp only [List.getElem_toArray, List.getElem_cons_succ, List.getElem_cons_zero, Act.put, List.setIfInBounds_toArray, List.set_cons_zero, List.set_cons_succ]
          repeat (first | (refine plan_skip rfl rfl ?_; simp only [List.getElem_toArray, List.getElem_cons_succ, List.getElem_cons_zero, Act.put, List.setIfInBounds_toArray, List.set_cons_zero, List.set_cons_succ]) | (refine plan_pass2 rfl rfl ?_; simp only [List.getElem_toArray, List.getElem_cons_succ, List.getElem_cons_zero, Act.put, List.setIfInBounds_toArray, List.set_cons_zero, List.set_cons_succ]) | (refine plan_pass3 rfl rfl ?_; simp only [List.getElem_toArray, List.getElem_cons_succ, List.getElem_cons_zero, Act.put, List.setIfInBounds_toArray, List.set_cons_zero, List.set_cons_succ]) | (refine plan_take (v := ?_) rfl rfl ?_ ?_; rotate_left; (focus (intro w0; go_simp; try with_reducible rfl)); simp only [List.getElem_toArray, List.getElem_cons_succ, List.getElem_cons_zero, Act.put, List.setIfInBounds_toArray, List.set_cons_zero, List.set_cons_succ]) | (refine plan_held (v := ?_) rfl rfl ⟨HB4.out, trivial⟩ ?_ ?_; rotate_left; (focus (intro w0 hSw; (try dsimp only at hSw); go_split_ands; go_simp; try with_reducible rfl)); simp only [List.getElem_toArray, List.getElem_cons_succ, List.getElem_cons_zero, Act.put, List.setIfInBounds_toArray, List.set_cons_zero, List.set_cons_succ])  | (refine plan_skip1 rfl rfl ⟨HB4.out, trivial⟩ ?_; simp only [List.getElem_toArray, List.getElem_cons_succ, List.getElem_cons_zero, Act.put, List.setIfInBounds_toArray, List.set_cons_zero, List.set_cons_succ]))
          refine plan_nil ?_
          go_wp2
          go_ret
          exact ⟨by rw [HS.out]; rfl, HM5.out⟩
      | succ k =>
        obtain ⟨q, hq⟩ : ∃ q, rs[k]? = some q := ⟨_, List.getElem?_eq_getElem (by have := HL.out; omega)⟩
        have HQ := Lib.hid hq
        have HQO := Lib.hid (HOK.out q (List.mem_of_getElem? hq))
        have HQA := Lib.hid (keepRange HM4.out (rows_get HCG.out HOK.out hq))
        have HQZ : Hid ((Tryz.prog.info? 28).map (·.size) = some (q.c (sv k)).length) := Lib.hid (by rw [TRow.c, rowC_len _ _ _ _ _ HQO.out.1]; exact HRS.out)
        have ek : IntKind.i64.wrap (((k + 1 : Nat) : Int) - 1) = (k : Int) := by rw [show ((k + 1 : Nat) : Int) - 1 = (k : Int) by omega]; exact IntWalk.i64_in _ (by omega)
        have ek2 : IntKind.i64.wrap (k : Int) = (k : Int) := IntWalk.i64_in _ (by omega)
        have ek3 : (k : Int) + 1 - 1 = (k : Int) := by omega
        have hk0 : 0 < ((k + 1 : Nat) : Int) := by omega
        have hkn : k < n := by omega
        clear hq
        refine wp_region_plan [] [(0, 1), (1, 2), (2, 0), (3, 0), (4, 0), (5, 0), (6, 0), (7, 0), (8, 0), (9, 0), (10, 0), (11, 1), (12, 1), (13, 2), (14, 0), (15, 0), (16, 0)] (fun w' : World => Blk w' ps 28 (r.c (sv (k + 1))) ∧ w'.rangeAt g (o + k * 20) (q.c (sv k))) (by kernel_rfl) (by kernel_rfl) (fun d _ _ _ _ h => by cases d <;> exact h) ?_
        repeat (first | (refine plan_skip rfl rfl ?_; simp only [List.getElem_toArray, List.getElem_cons_succ, List.getElem_cons_zero, Act.put, List.setIfInBounds_toArray, List.set_cons_zero, List.set_cons_succ]) | (refine plan_pass2 rfl rfl ?_; simp only [List.getElem_toArray, List.getElem_cons_succ, List.getElem_cons_zero, Act.put, List.setIfInBounds_toArray, List.set_cons_zero, List.set_cons_succ]) | (refine plan_pass3 rfl rfl ?_; simp only [List.getElem_toArray, List.getElem_cons_succ, List.getElem_cons_zero, Act.put, List.setIfInBounds_toArray, List.set_cons_zero, List.set_cons_succ]) | (refine plan_take (v := ?_) rfl rfl ?_ ?_; rotate_left; (focus (intro w0; go_simp; try with_reducible rfl)); simp only [List.getElem_toArray, List.getElem_cons_succ, List.getElem_cons_zero, Act.put, List.setIfInBounds_toArray, List.set_cons_zero, List.set_cons_succ]) | fail )
        (refine plan_held (v := .agg (r.c (sv (k + 1))).toArray) rfl rfl ⟨HB.out.drew, keepRange (Mod.refl (fun _ => False) w3).drew.drew HQA.out⟩ (fun w0 h0 => exec_load_blk _ _ rfl ps 0 rfl 28 (r.c (sv (k + 1))) (r.c (sv (k + 1))) _ w0 h0.1 (List.take_of_length_le (Nat.le_refl _)) Tryz.underlying28 rfl HRZ.out) ?_; try simp only [List.getElem_toArray, List.getElem_cons_succ, List.getElem_cons_zero, Act.put, List.setIfInBounds_toArray, List.set_cons_zero, List.set_cons_succ])
        repeat (first | (refine plan_skip rfl rfl ?_; simp only [List.getElem_toArray, List.getElem_cons_succ, List.getElem_cons_zero, Act.put, List.setIfInBounds_toArray, List.set_cons_zero, List.set_cons_succ]) | (refine plan_pass2 rfl rfl ?_; simp only [List.getElem_toArray, List.getElem_cons_succ, List.getElem_cons_zero, Act.put, List.setIfInBounds_toArray, List.set_cons_zero, List.set_cons_succ]) | (refine plan_pass3 rfl rfl ?_; simp only [List.getElem_toArray, List.getElem_cons_succ, List.getElem_cons_zero, Act.put, List.setIfInBounds_toArray, List.set_cons_zero, List.set_cons_succ]) | (refine plan_take (v := ?_) rfl rfl ?_ ?_; rotate_left; (focus (intro w0; go_simp; try with_reducible rfl)); simp only [List.getElem_toArray, List.getElem_cons_succ, List.getElem_cons_zero, Act.put, List.setIfInBounds_toArray, List.set_cons_zero, List.set_cons_succ]) | fail )
        (refine plan_do rfl rfl fun K hK => ?_; try simp only [List.getElem_toArray, List.getElem_cons_succ, List.getElem_cons_zero])
        go_simp
        refine (goodRow_any r (sv (k + 1)) HO.out _ (show Reads w3.drew (sv (k + 1)) r.next.length (ints r.next) from HN4.out)).mono ?_; rintro e w4 ⟨rfl, hm⟩
        rw [← HHG.out]
        have HB4 := Lib.hid (HB.out.keep hm fun f => f)
        have HQ4 := Lib.hid (keepRange hm (show w3.drew.rangeAt g (o + k * 20) (q.c (sv k)) from HQA.out))
        have HM5 := Lib.hid (HM4.out.trans hm fun _ f => f.elim)
        refine hK _ _ ⟨HB4.out, HQ4.out⟩ ?_
        clear hK K hm HQA HB
        cases G with
        | false =>
          have HS := Lib.hid (stepT_no rs (k + 1) r HR.out HHG.out.symm)
          try simp only [List.getElem_toArray, List.getElem_cons_succ, List.getElem_cons_zero, Act.put, List.setIfInBounds_toArray, List.set_cons_zero, List.set_cons_succ]
          repeat (first | (refine plan_skip rfl rfl ?_; simp only [List.getElem_toArray, List.getElem_cons_succ, List.getElem_cons_zero, Act.put, List.setIfInBounds_toArray, List.set_cons_zero, List.set_cons_succ]) | (refine plan_pass2 rfl rfl ?_; simp only [List.getElem_toArray, List.getElem_cons_succ, List.getElem_cons_zero, Act.put, List.setIfInBounds_toArray, List.set_cons_zero, List.set_cons_succ]) | (refine plan_pass3 rfl rfl ?_; simp only [List.getElem_toArray, List.getElem_cons_succ, List.getElem_cons_zero, Act.put, List.setIfInBounds_toArray, List.set_cons_zero, List.set_cons_succ]) | (refine plan_take (v := ?_) rfl rfl ?_ ?_; rotate_left; (focus (intro w0; go_simp; try with_reducible rfl)); simp only [List.getElem_toArray, List.getElem_cons_succ, List.getElem_cons_zero, Act.put, List.setIfInBounds_toArray, List.set_cons_zero, List.set_cons_succ]) | (refine plan_held (v := ?_) rfl rfl ⟨HB4.out, HQ4.out⟩ ?_ ?_; rotate_left; (focus (intro w0 hSw; (try dsimp only at hSw); go_split_ands; go_simp; try with_reducible rfl)); simp only [List.getElem_toArray, List.getElem_cons_succ, List.getElem_cons_zero, Act.put, List.setIfInBounds_toArray, List.set_cons_zero, List.set_cons_succ])  | (refine plan_skip1 rfl rfl ⟨HB4.out, HQ4.out⟩ ?_; simp only [List.getElem_toArray, List.getElem_cons_succ, List.getElem_cons_zero, Act.put, List.setIfInBounds_toArray, List.set_cons_zero, List.set_cons_succ]))
          refine plan_nil ?_
          go_wp2
          go_ret
          exact ⟨by rw [HS.out]; rfl, HM5.out⟩
        | true =>
          try simp only [List.getElem_toArray, List.getElem_cons_succ, List.getElem_cons_zero, Act.put, List.setIfInBounds_toArray, List.set_cons_zero, List.set_cons_succ]
          repeat (first | (refine plan_skip rfl rfl ?_; simp only [List.getElem_toArray, List.getElem_cons_succ, List.getElem_cons_zero, Act.put, List.setIfInBounds_toArray, List.set_cons_zero, List.set_cons_succ]) | (refine plan_pass2 rfl rfl ?_; simp only [List.getElem_toArray, List.getElem_cons_succ, List.getElem_cons_zero, Act.put, List.setIfInBounds_toArray, List.set_cons_zero, List.set_cons_succ]) | (refine plan_pass3 rfl rfl ?_; simp only [List.getElem_toArray, List.getElem_cons_succ, List.getElem_cons_zero, Act.put, List.setIfInBounds_toArray, List.set_cons_zero, List.set_cons_succ]) | (refine plan_take (v := ?_) rfl rfl ?_ ?_; rotate_left; (focus (intro w0; go_simp; try with_reducible rfl)); simp only [List.getElem_toArray, List.getElem_cons_succ, List.getElem_cons_zero, Act.put, List.setIfInBounds_toArray, List.set_cons_zero, List.set_cons_succ]) | (refine plan_held (v := ?_) rfl rfl ⟨HB4.out, HQ4.out⟩ ?_ ?_; rotate_left; (focus (intro w0 hSw; (try dsimp only at hSw); go_split_ands; go_simp; try with_reducible rfl)); simp only [List.getElem_toArray, List.getElem_cons_succ, List.getElem_cons_zero, Act.put, List.setIfInBounds_toArray, List.set_cons_zero, List.set_cons_succ])  | (refine plan_skip1 rfl rfl ⟨HB4.out, HQ4.out⟩ ?_; simp only [List.getElem_toArray, List.getElem_cons_succ, List.getElem_cons_zero, Act.put, List.setIfInBounds_toArray, List.set_cons_zero, List.set_cons_succ]))
          (refine plan_held (v := .agg (q.c (sv k)).toArray) rfl rfl ⟨HB4.out, HQ4.out⟩ (fun w0 h0 => exec_load_mid _ _ rfl g (o + k * 20) rfl (q.c (sv k)) _ w0 h0.2 Tryz.underlying28 rfl HQZ.out) ?_; try simp only [List.getElem_toArray, List.getElem_cons_succ, List.getElem_cons_zero, Act.put, List.setIfInBounds_toArray, List.set_cons_zero, List.set_cons_succ])
          repeat (first | (refine plan_skip rfl rfl ?_; simp only [List.getElem_toArray, List.getElem_cons_succ, List.getElem_cons_zero, Act.put, List.setIfInBounds_toArray, List.set_cons_zero, List.set_cons_succ]) | (refine plan_pass2 rfl rfl ?_; simp only [List.getElem_toArray, List.getElem_cons_succ, List.getElem_cons_zero, Act.put, List.setIfInBounds_toArray, List.set_cons_zero, List.set_cons_succ]) | (refine plan_pass3 rfl rfl ?_; simp only [List.getElem_toArray, List.getElem_cons_succ, List.getElem_cons_zero, Act.put, List.setIfInBounds_toArray, List.set_cons_zero, List.set_cons_succ]) | (refine plan_take (v := ?_) rfl rfl ?_ ?_; rotate_left; (focus (intro w0; go_simp; try with_reducible rfl)); simp only [List.getElem_toArray, List.getElem_cons_succ, List.getElem_cons_zero, Act.put, List.setIfInBounds_toArray, List.set_cons_zero, List.set_cons_succ]) | (refine plan_held (v := ?_) rfl rfl ⟨HB4.out, HQ4.out⟩ ?_ ?_; rotate_left; (focus (intro w0 hSw; (try dsimp only at hSw); go_split_ands; go_simp; try with_reducible rfl)); simp only [List.getElem_toArray, List.getElem_cons_succ, List.getElem_cons_zero, Act.put, List.setIfInBounds_toArray, List.set_cons_zero, List.set_cons_succ])  | (refine plan_skip1 rfl rfl ⟨HB4.out, HQ4.out⟩ ?_; simp only [List.getElem_toArray, List.getElem_cons_succ, List.getElem_cons_zero, Act.put, List.setIfInBounds_toArray, List.set_cons_zero, List.set_cons_succ]))
          (refine plan_held (v := .agg (r.c (sv (k + 1))).toArray) rfl rfl ⟨HB4.out, HQ4.out⟩ (fun w0 h0 => exec_load_blk _ _ rfl ps 0 rfl 28 (r.c (sv (k + 1))) (r.c (sv (k + 1))) _ w0 h0.1 (List.take_of_length_le (Nat.le_refl _)) Tryz.underlying28 rfl HRZ.out) ?_; try simp only [List.getElem_toArray, List.getElem_cons_succ, List.getElem_cons_zero, Act.put, List.setIfInBounds_toArray, List.set_cons_zero, List.set_cons_succ])
          repeat (first | (refine plan_skip rfl rfl ?_; simp only [List.getElem_toArray, List.getElem_cons_succ, List.getElem_cons_zero, Act.put, List.setIfInBounds_toArray, List.set_cons_zero, List.set_cons_succ]) | (refine plan_pass2 rfl rfl ?_; simp only [List.getElem_toArray, List.getElem_cons_succ, List.getElem_cons_zero, Act.put, List.setIfInBounds_toArray, List.set_cons_zero, List.set_cons_succ]) | (refine plan_pass3 rfl rfl ?_; simp only [List.getElem_toArray, List.getElem_cons_succ, List.getElem_cons_zero, Act.put, List.setIfInBounds_toArray, List.set_cons_zero, List.set_cons_succ]) | (refine plan_take (v := ?_) rfl rfl ?_ ?_; rotate_left; (focus (intro w0; go_simp; try with_reducible rfl)); simp only [List.getElem_toArray, List.getElem_cons_succ, List.getElem_cons_zero, Act.put, List.setIfInBounds_toArray, List.set_cons_zero, List.set_cons_succ]) | (refine plan_held (v := ?_) rfl rfl ⟨HB4.out, HQ4.out⟩ ?_ ?_; rotate_left; (focus (intro w0 hSw; (try dsimp only at hSw); go_split_ands; go_simp; try with_reducible rfl)); simp only [List.getElem_toArray, List.getElem_cons_succ, List.getElem_cons_zero, Act.put, List.setIfInBounds_toArray, List.set_cons_zero, List.set_cons_succ])  | (refine plan_skip1 rfl rfl ⟨HB4.out, HQ4.out⟩ ?_; simp only [List.getElem_toArray, List.getElem_cons_succ, List.getElem_cons_zero, Act.put, List.setIfInBounds_toArray, List.set_cons_zero, List.set_cons_succ]))
          (refine plan_do rfl rfl fun K hK => ?_; try simp only [List.getElem_toArray, List.getElem_cons_succ, List.getElem_cons_zero])
          go_simp
          refine (compare_any q r (sv k) (sv (k + 1)) HQO.out HO.out _).mono ?_; rintro e w5 ⟨rfl, hm⟩
          have HB5 := Lib.hid (HB4.out.keep hm fun f => f)
          have HQ5 := Lib.hid (keepRange hm HQ4.out)
          have HM6 := Lib.hid (HM5.out.trans hm fun _ f => f.elim)
          refine hK _ _ ⟨HB5.out, HQ5.out⟩ ?_
          clear hK K hm HB4 HQ4 HM5
          by_cases hc : cmpT q r = -1
          · have HS := Lib.hid (stepT_s rs k r q HR.out HQ.out HHG.out.symm hc)
            rw [hc]
            clear hc
            try simp only [List.getElem_toArray, List.getElem_cons_succ, List.getElem_cons_zero, Act.put, List.setIfInBounds_toArray, List.set_cons_zero, List.set_cons_succ]
            repeat (first | (refine plan_skip rfl rfl ?_; simp only [List.getElem_toArray, List.getElem_cons_succ, List.getElem_cons_zero, Act.put, List.setIfInBounds_toArray, List.set_cons_zero, List.set_cons_succ]) | (refine plan_pass2 rfl rfl ?_; simp only [List.getElem_toArray, List.getElem_cons_succ, List.getElem_cons_zero, Act.put, List.setIfInBounds_toArray, List.set_cons_zero, List.set_cons_succ]) | (refine plan_pass3 rfl rfl ?_; simp only [List.getElem_toArray, List.getElem_cons_succ, List.getElem_cons_zero, Act.put, List.setIfInBounds_toArray, List.set_cons_zero, List.set_cons_succ]) | (refine plan_take (v := ?_) rfl rfl ?_ ?_; rotate_left; (focus (intro w0; go_simp; try with_reducible rfl)); simp only [List.getElem_toArray, List.getElem_cons_succ, List.getElem_cons_zero, Act.put, List.setIfInBounds_toArray, List.set_cons_zero, List.set_cons_succ]) | (refine plan_held (v := ?_) rfl rfl ⟨HB5.out, HQ5.out⟩ ?_ ?_; rotate_left; (focus (intro w0 hSw; (try dsimp only at hSw); go_split_ands; go_simp; try with_reducible rfl)); simp only [List.getElem_toArray, List.getElem_cons_succ, List.getElem_cons_zero, Act.put, List.setIfInBounds_toArray, List.set_cons_zero, List.set_cons_succ])  | (refine plan_skip1 rfl rfl ⟨HB5.out, HQ5.out⟩ ?_; simp only [List.getElem_toArray, List.getElem_cons_succ, List.getElem_cons_zero, Act.put, List.setIfInBounds_toArray, List.set_cons_zero, List.set_cons_succ]))
            refine plan_nil ?_
            go_wp2
            go_roundw
            case rel => exact ⟨k + 2, by omega, by go_num, HM6.out, fun t ht => by rcases (show t < k + 1 ∨ t = k + 1 by omega) with h | rfl; exact HALL.out t h; exact HS.out⟩
            case measure => simp [intOf]; omega
          · have HS := Lib.hid (stepT_cmp rs k r q HR.out HQ.out hc)
            obtain ⟨c, hcc⟩ : ∃ c, c = cmpT q r := ⟨_, rfl⟩
            have hc0 : 0 ≤ c := by have := cmpT_in q r; omega
            rw [← hcc]
            clear hc hcc
            try simp only [List.getElem_toArray, List.getElem_cons_succ, List.getElem_cons_zero, Act.put, List.setIfInBounds_toArray, List.set_cons_zero, List.set_cons_succ]
            repeat (first | (refine plan_skip rfl rfl ?_; simp only [List.getElem_toArray, List.getElem_cons_succ, List.getElem_cons_zero, Act.put, List.setIfInBounds_toArray, List.set_cons_zero, List.set_cons_succ]) | (refine plan_pass2 rfl rfl ?_; simp only [List.getElem_toArray, List.getElem_cons_succ, List.getElem_cons_zero, Act.put, List.setIfInBounds_toArray, List.set_cons_zero, List.set_cons_succ]) | (refine plan_pass3 rfl rfl ?_; simp only [List.getElem_toArray, List.getElem_cons_succ, List.getElem_cons_zero, Act.put, List.setIfInBounds_toArray, List.set_cons_zero, List.set_cons_succ]) | (refine plan_take (v := ?_) rfl rfl ?_ ?_; rotate_left; (focus (intro w0; go_simp; try with_reducible rfl)); simp only [List.getElem_toArray, List.getElem_cons_succ, List.getElem_cons_zero, Act.put, List.setIfInBounds_toArray, List.set_cons_zero, List.set_cons_succ]) | (refine plan_held (v := ?_) rfl rfl ⟨HB5.out, HQ5.out⟩ ?_ ?_; rotate_left; (focus (intro w0 hSw; (try dsimp only at hSw); go_split_ands; go_simp; try with_reducible rfl)); simp only [List.getElem_toArray, List.getElem_cons_succ, List.getElem_cons_zero, Act.put, List.setIfInBounds_toArray, List.set_cons_zero, List.set_cons_succ])  | (refine plan_skip1 rfl rfl ⟨HB5.out, HQ5.out⟩ ?_; simp only [List.getElem_toArray, List.getElem_cons_succ, List.getElem_cons_zero, Act.put, List.setIfInBounds_toArray, List.set_cons_zero, List.set_cons_succ]))
            refine plan_nil ?_
            go_wp2
            go_ret
            exact ⟨by rw [HS.out]; rfl, HM6.out⟩
    · obtain rfl : j = n := by omega
      have HD : Hid (goodT rs = decide (j ≤ 2048)) := Lib.hid (by rw [goodT_yes rs fun t ht => HALL.out t (by have := HL.out; omega), ← HL.out])
      clear HALL hj hlt
      by_cases hd : j ≤ 2048
      · have hdi : (j : Int) ≤ 2048 := by omega
        have HDD := Lib.hid (decide_eq_true hd)
        go_wp2
        go_ret
        exact ⟨by rw [HD.out, HDD.out]; rfl, HM.out⟩
      · have hdi : ¬ (j : Int) ≤ 2048 := by omega
        have HDD := Lib.hid (decide_eq_false hd)
        go_wp2
        go_ret
        exact ⟨by rw [HD.out, HDD.out]; rfl, HM.out⟩
end Go.Proofs.YtegjamjognpdkaaGreat
