/- A version's index, filled once: (*table.version).find's inner function: contract. -/
import Derived.Test.YtegjamjognpdkaaGreatSpot
import Derived.Test.YtegjamjognpdkaaGreatOwnB
namespace Go.Proofs.YtegjamjognpdkaaGreat
open Go.RowKit
set_option linter.unusedVariables false
set_option linter.unusedSimpArgs false
theorem goodT_sorted {rs : List TRow} (h : goodT rs = true) (hok : rowsOk rs) : rs.Pairwise fun a b => cmpT a b = -1 := by
  unfold goodT at h
  rw [Bool.and_eq_true] at h
  have hall : ∀ j, j < rs.length → stepT rs j = true := by
    intro j hj
    have := h.1
    unfold allTo at this
    rw [List.all_eq_true] at this
    exact this j (List.mem_range.2 hj)
  rw [List.pairwise_iff_getElem]
  have step : ∀ j (hj : j + 1 < rs.length), cmpT rs[j] rs[j + 1] = -1 := by
    intro j hj
    have := hall (j + 1) hj
    unfold stepT at this
    rw [Bool.and_eq_true, getD_get rs (j + 1) hj, Nat.add_sub_cancel, getD_get rs j (by omega)] at this
    simpa using this.2
  intro i j hi hj hij
  obtain ⟨d, rfl⟩ : ∃ d, j = i + 1 + d := ⟨j - i - 1, by omega⟩
  clear hij
  induction d with
  | zero => exact step i hj
  | succ d ih =>
    have h1 := ih (by omega)
    have h2 := step (i + 1 + d) hj
    exact cmpT_tr _ _ _ (hok _ (List.getElem_mem _)).1 (hok _ (List.getElem_mem _)).1 (hok _ (List.getElem_mem _)).1 h1 h2
theorem cmpI_self (a : Int) : cmpI a a = 0 := by unfold cmpI; simp
theorem cmpL_self : ∀ l : List Int, cmpL l l = 0
  | [] => rfl
  | a :: l => by simp [cmpL, cmpL_self l]
theorem same_cmp {x r : TRow} (h : sameK x r = true) : cmpT r x = 0 := by
  unfold sameK at h
  obtain ⟨h1, ⟨h2, h3⟩, h4⟩ := of_decide_eq_true h
  unfold cmpT cmpA
  rw [h1, h2, h3, h4, cmpI_self, cmpI_self, if_pos rfl]
  cases r.v6 <;> simp [cmpL_self, or3]
theorem placeR_none {x : TRow} : ∀ {l : List TRow}, (∀ r ∈ l, sameK x r = false) → placeR x l = none
  | [], _ => rfl
  | r :: l, h => by
    unfold placeR
    rw [h r List.mem_cons_self, placeR_none fun y hy => h y (List.mem_cons_of_mem _ hy)]
    rfl
/-- each row is new to the index -/
theorem placeR_new {rs : List TRow} (h : rs.Pairwise fun a b => cmpT a b = -1) {j : Nat} {r : TRow} (hj : rs[j]? = some r) : placeR r (rs.take j) = none := by
  refine placeR_none fun q hq => ?_
  cases hs : sameK r q with
  | false => rfl
  | true =>
    obtain ⟨i, hi, rfl⟩ := List.getElem_of_mem hq
    rw [List.length_take] at hi
    obtain ⟨hjl, rfl⟩ := List.getElem?_eq_some_iff.1 hj
    have h1 := List.pairwise_iff_getElem.1 h i j (by omega) hjl (by omega)
    have h2 := same_cmp hs
    rw [List.getElem_take] at h2
    rw [h2] at h1
    cases h1
theorem RowsOwn.rowAt' {w : World} {f : Nat → Prop} {g n cp j : Nat} {rs : List TRow} {sv : Nat → Value} {r : TRow} (h : RowsOwn w f (.slice (some ⟨g, 0, none⟩) n cp) rs sv) (hj : rs[j]? = some r) : w.rangeAt g (j * 20) (r.c (sv j)) := by
  obtain ⟨ad, cap, e, _, _, h3⟩ := h.row.form
  injection e with e1 e2 e3
  obtain ⟨g', e4, _, _, hc⟩ := h3 (by have := (List.getElem?_eq_some_iff.1 hj).1; omega)
  rw [← e1] at e4
  injection e4 with e5
  injection e5 with e6
  subst e6
  have := rows_get (o := 0) (fun i u hu => by rw [Nat.zero_add]; exact hc i u hu) h.ok hj
  rwa [Nat.zero_add] at this
def verC (rv : Value) (d s : Int) (at' : Value) : List Value := [rv, .int .u32 d, .int .i32 s, .int .u32 0, at']
/-- the filling, j rows behind -/
structure FillJ (rs : List TRow) (rv : Value) (sv : Nat → Value) (d s : Int) (vb p mb : Nat) (w wr : World) (j : Nat) : Prop where
  ver : Blk wr vb 80 (verC rv d s (.map (some mb)))
  box : wr.cell? ⟨p, 0, none⟩ = some (.pointer (some ⟨vb, 0, none⟩))
  map : SpM wr mb (rs.take j)
  mod : Mod (fun k => k = vb) w wr
theorem run_makeMap_spot (w : World) : (Instr.makeMap 78 none).run Tryz.prog w = .ok (.map (some w.heap.size)) (w.alloc (.map #[] 0)) := by
  simp [Instr.makeMap, run_underlying Tryz.underlying78, Result.andThen, newObj]
  rfl
theorem rangeFar {w w' : World} {F : Nat → Prop} (hm : Mod F w w') {b o : Nat} {cs : List Value} (h : w.rangeAt b o cs) (hn : ¬ F b) : w'.rangeAt b o cs := fun j v hv => hm.cell hn (h j v hv)
theorem rowC_drop1 (r : TRow) (sv : Value) (hb : r.b.length = 16) : ((r.c sv).drop 1).take 17 = adrC r.v6 r.b := by
  unfold TRow.c rowC
  have hl : (adrC r.v6 r.b).length = 17 := by simp [adrC, hb]
  simp only [List.drop_succ_cons, List.drop_zero]
  exact List.take_left' hl
set_option maxRecDepth 100000 in
set_option maxHeartbeats 4000000 in
theorem fill_any (rs : List TRow) (rv : Value) (sv : Nat → Value) (d s : Int) (at' : Value) (vb p : Nat) (w : World) (f : Nat → Prop) (h : RowsOwn w f rv rs sv) (hn : rs.length ≤ 2048) (hs : rs.Pairwise fun a b => cmpT a b = -1) (hf : ∀ k, f k → k ≠ vb)
    (hv : Blk w vb 80 (verC rv d s at')) (hp : w.cell? ⟨p, 0, none⟩ = some (.pointer (some ⟨vb, 0, none⟩))) (hpv : p ≠ vb) :
    Calls Tryz.prog 68 #[.pointer (some ⟨p, 0, none⟩)] w fun e w' => e = .returned (.tuple #[]) ∧ ∃ mb, w.heap.size ≤ mb ∧ FillJ rs rv sv d s vb p mb w w' rs.length := by
  have HV := Lib.hid hv
  have HP := Lib.hid hp
  have HPV := Lib.hid hpv
  have HF := Lib.hid hf
  have HS := Lib.hid hs
  have HOK := Lib.hid h.ok
  have HRS := Lib.hid rowSz
  have HVL := Lib.hid hv.lt
  have HPL := Lib.hid (World.block_lt_of_cell? w _ hp)
  obtain ⟨n, hnn⟩ : ∃ n, n = rs.length := ⟨_, rfl⟩
  have hform := h.row.form
  rw [← hnn] at hform hn
  obtain ⟨ad, cp, rfl, hnc, hcm, hg⟩ := hform
  unfold maxLen at hcm
  have HG := Lib.hid hg
  have HH := Lib.hid h
  have HL := Lib.hid hnn
  have hmk := run_makeMap_spot
  have HVa : Hid (Blk (w.alloc (.map #[] 0)) vb 80 (verC (.slice ad n cp) d s at')) := Lib.hid (hv.alloc _)
  have HM1 : Hid ((Tryz.prog.info? 78).map (·.size) = some 1) := Lib.hid (by kernel_rfl)
  clear hg h hnn hv hs hf hpv
  go_enter Tryz.func68, Tryz.ntmps68
  go_wp2_with (refine wpList_store_blk1 rfl _ _ _ rfl vb 4 80 (verC (.slice ad n cp) d s at') (.map (some w.heap.size)) rfl rfl HVa.out (show 4 < 5 by decide) HM1.out rfl ?_; intro w1 HV1 HMD; have cp1 : w1.cell? ⟨p, 0, none⟩ = some (.pointer (some ⟨vb, 0, none⟩)) := HMD.out.cell (show ¬ p = vb from HPV.out) (((Mod.refl (fun _ => False) w).alloc _).cell (fun f => f) HP.out); have cv0 : w1.cell? ⟨vb, 0, none⟩ = some (.slice ad n cp) := HV1.out.cell rfl)
  have HJ0 : Hid (FillJ rs (.slice ad n cp) sv d s vb p w.heap.size w w1 0) := Lib.hid ⟨HV1.out, cp1, by rw [List.take_zero]; exact HMD.out.keep (allocNew w _) (by have := HVL.out; omega), ((Mod.refl _ _).alloc _).trans HMD.out fun x hx => .inl hx⟩
  obtain ⟨mb, hmb⟩ : ∃ mb, mb = w.heap.size := ⟨_, rfl⟩
  rw [← hmb] at HJ0
  try rw [← hmb]
  have HMB : Hid (w.heap.size ≤ mb) := Lib.hid (by omega)
  clear hmb HV1 HMD HVa cp1 cv0 hmk
  go_loopw [12] (fun i wr => ∃ j : Nat, j ≤ n ∧ i = .int .i64 (j : Int) ∧ FillJ rs (.slice ad n cp) sv d s vb p mb w wr j) (fun i _ => n - (intOf i).toNat)
  case atStart => exact ⟨0, Nat.zero_le _, rfl, HJ0.out⟩
  case round =>
    obtain ⟨j, hj, rfl, hJ⟩ := hrel
    have HJ := Lib.hid hJ
    clear hJ
    by_cases hlt : j < n
    · obtain ⟨g, rfl, hgf, hgl, _⟩ := HG.out (by omega)
      obtain ⟨r, hr⟩ : ∃ r, rs[j]? = some r := ⟨_, List.getElem?_eq_getElem (by have := HL.out; omega)⟩
      have HR := Lib.hid hr
      have HRA := Lib.hid (rangeFar HJ.out.mod (HH.out.rowAt' hr) (show ¬ g = vb from HF.out g hgf))
      have HO := Lib.hid (HOK.out r (List.mem_of_getElem? hr))
      have HRZ : Hid ((Tryz.prog.info? 28).map (·.size) = some (r.c (sv j)).length) := Lib.hid (by rw [TRow.c, rowC_len _ _ _ _ _ HO.out.1]; exact HRS.out)
      have HONE : Hid (∀ u ∈ r.c (sv j), u.oneCell' = true) := Lib.hid (rowC_one _ _ _ _ _ (by obtain ⟨_, _, e, _⟩ := (HH.out.next j r hr).form; rw [e]; rfl))
      have HFIT : Hid (0 + (r.c (sv j)).length ≤ (rowC 0 false z16 0 (.slice none 0 0)).length) := Lib.hid (by rw [TRow.c, rowC_len _ _ _ _ _ HO.out.1, rowC_len _ _ _ _ _ rfl]; decide)
      have HNB := Lib.hid (Blk.new wr 28 (rowC 0 false z16 0 (.slice none 0 0)))
      have HPN := Lib.hid (placeR_new HS.out hr)
      have HTL : Hid ((rs.take j).length = j) := Lib.hid (by rw [List.length_take]; have := HL.out; omega)
      have HTO : Hid (∀ q ∈ rs.take j, q.b.length = 16) := Lib.hid fun q hq => (HOK.out q (List.mem_of_mem_take hq)).1
      have HTS : Hid (rs.take (j + 1) = rs.take j ++ [r]) := Lib.hid (by rw [List.take_add_one, hr]; rfl)
      have HAZ : Hid ((Tryz.prog.info? 25).map (·.size) = some (adrC r.v6 r.b).length) := Lib.hid (by rw [adrC_len, HO.out.1]; exact adrSz)
      clear hr
      go_wp2_with (first | (refine wpList_load_midG rfl _ _ rfl g (j * 20) rfl (r.c (sv j)) _ HRA.out Tryz.underlying28 rfl HRZ.out ?_) | (refine wpList_store_blk rfl _ _ _ rfl wr.heap.size 0 28 (rowC 0 false z16 0 (.slice none 0 0)) (r.c (sv j)) rfl rfl HNB.out HFIT.out HRZ.out HONE.out ?_; intro w3 HB3 HM3))
      have HB := Lib.hid (splice_all HB3.out (by rw [TRow.c, rowC_len _ _ _ _ _ HO.out.1, rowC_len _ _ _ _ _ rfl])).drew
      have HMB3 : Hid (Mod (fun _ => False) wr w3.drew) := Lib.hid (((Mod.refl _ _).alloc _).trans HM3.out fun x hx => .inr (by omega)).drew
      obtain ⟨q, hq⟩ : ∃ q, q = wr.heap.size := ⟨_, rfl⟩
      rw [← hq] at HB
      try rw [← hq]
      have hS : w3.drew.cell? ⟨p, 0, none⟩ = some (.pointer (some ⟨vb, 0, none⟩)) ∧ w3.drew.cell? ⟨vb, 4, none⟩ = some (.map (some mb)) ∧ Blk w3.drew q 28 (r.c (sv j)) ∧ w3.drew.cell? ⟨q, 0, none⟩ = some (.int .i64 r.vlan) ∧ w3.drew.cell? ⟨q, 18, none⟩ = some (.int .i64 r.root) :=
        ⟨HMB3.out.cell (fun f => f) HJ.out.box, HMB3.out.cell (fun f => f) (HJ.out.ver.cell rfl), HB.out, HB.out.cell (rowC_0 ..), HB.out.cell (rowC_18 _ _ _ _ _ HO.out.1)⟩
      clear hq HB3 HM3 HNB HFIT HONE HRZ HRA
      refine wp_region_plan [12] [(0, 1), (1, 0), (2, 0), (3, 1), (4, 0), (5, 1), (6, 0), (7, 1), (8, 0), (9, 1), (10, 0), (11, 0), (12, 3)] (fun w' : World => w'.cell? ⟨p, 0, none⟩ = some (.pointer (some ⟨vb, 0, none⟩)) ∧ w'.cell? ⟨vb, 4, none⟩ = some (.map (some mb)) ∧ Blk w' q 28 (r.c (sv j)) ∧ w'.cell? ⟨q, 0, none⟩ = some (.int .i64 r.vlan) ∧ w'.cell? ⟨q, 18, none⟩ = some (.int .i64 r.root)) (by kernel_rfl) (by kernel_rfl) (fun d _ _ _ _ h => by cases d <;> exact h) ?_
      repeat (first | (refine plan_skip rfl rfl ?_; simp only [List.getElem_toArray, List.getElem_cons_succ, List.getElem_cons_zero, Act.put, List.setIfInBounds_toArray, List.set_cons_zero, List.set_cons_succ]) | (refine plan_pass2 rfl rfl ?_; simp only [List.getElem_toArray, List.getElem_cons_succ, List.getElem_cons_zero, Act.put, List.setIfInBounds_toArray, List.set_cons_zero, List.set_cons_succ]) | (refine plan_pass3 rfl rfl ?_; simp only [List.getElem_toArray, List.getElem_cons_succ, List.getElem_cons_zero, Act.put, List.setIfInBounds_toArray, List.set_cons_zero, List.set_cons_succ]) | (refine plan_take (v := ?_) rfl rfl ?_ ?_; rotate_left; (focus (intro w0; go_simp; try with_reducible rfl)); simp only [List.getElem_toArray, List.getElem_cons_succ, List.getElem_cons_zero, Act.put, List.setIfInBounds_toArray, List.set_cons_zero, List.set_cons_succ]) | (refine plan_held (v := ?_) rfl rfl hS ?_ ?_; rotate_left; (focus (intro w0 hSw; (try dsimp only at hSw); go_split_ands; go_simp; try with_reducible rfl)); simp only [List.getElem_toArray, List.getElem_cons_succ, List.getElem_cons_zero, Act.put, List.setIfInBounds_toArray, List.set_cons_zero, List.set_cons_succ])  | (refine plan_skip1 rfl rfl hS ?_; simp only [List.getElem_toArray, List.getElem_cons_succ, List.getElem_cons_zero, Act.put, List.setIfInBounds_toArray, List.set_cons_zero, List.set_cons_succ]))
      (refine plan_held (v := .agg (adrC r.v6 r.b).toArray) rfl rfl hS (fun w0 h0 => exec_load_blk _ _ rfl q 1 rfl 28 (r.c (sv j)) (adrC r.v6 r.b) _ w0 h0.2.2.1 (by rw [adrC_len, HO.out.1]; exact rowC_drop1 r _ HO.out.1) Tryz.underlying25 rfl HAZ.out) ?_; try simp only [List.getElem_toArray, List.getElem_cons_succ, List.getElem_cons_zero, Act.put, List.setIfInBounds_toArray, List.set_cons_zero, List.set_cons_succ])
      repeat (first | (refine plan_skip rfl rfl ?_; simp only [List.getElem_toArray, List.getElem_cons_succ, List.getElem_cons_zero, Act.put, List.setIfInBounds_toArray, List.set_cons_zero, List.set_cons_succ]) | (refine plan_pass2 rfl rfl ?_; simp only [List.getElem_toArray, List.getElem_cons_succ, List.getElem_cons_zero, Act.put, List.setIfInBounds_toArray, List.set_cons_zero, List.set_cons_succ]) | (refine plan_pass3 rfl rfl ?_; simp only [List.getElem_toArray, List.getElem_cons_succ, List.getElem_cons_zero, Act.put, List.setIfInBounds_toArray, List.set_cons_zero, List.set_cons_succ]) | (refine plan_take (v := ?_) rfl rfl ?_ ?_; rotate_left; (focus (intro w0; go_simp; try with_reducible rfl)); simp only [List.getElem_toArray, List.getElem_cons_succ, List.getElem_cons_zero, Act.put, List.setIfInBounds_toArray, List.set_cons_zero, List.set_cons_succ]) | (refine plan_held (v := ?_) rfl rfl hS ?_ ?_; rotate_left; (focus (intro w0 hSw; (try dsimp only at hSw); go_split_ands; go_simp; try with_reducible rfl)); simp only [List.getElem_toArray, List.getElem_cons_succ, List.getElem_cons_zero, Act.put, List.setIfInBounds_toArray, List.set_cons_zero, List.set_cons_succ])  | (refine plan_skip1 rfl rfl hS ?_; simp only [List.getElem_toArray, List.getElem_cons_succ, List.getElem_cons_zero, Act.put, List.setIfInBounds_toArray, List.set_cons_zero, List.set_cons_succ]))
      refine plan_take (v := spotV r) rfl rfl (fun w0 => exec_build_spot rfl r HO.out.1 rfl rfl rfl w0) ?_
      try simp only [List.getElem_toArray, List.getElem_cons_succ, List.getElem_cons_zero, Act.put, List.setIfInBounds_toArray, List.set_cons_zero, List.set_cons_succ]
      repeat (first | (refine plan_skip rfl rfl ?_; simp only [List.getElem_toArray, List.getElem_cons_succ, List.getElem_cons_zero, Act.put, List.setIfInBounds_toArray, List.set_cons_zero, List.set_cons_succ]) | (refine plan_pass2 rfl rfl ?_; simp only [List.getElem_toArray, List.getElem_cons_succ, List.getElem_cons_zero, Act.put, List.setIfInBounds_toArray, List.set_cons_zero, List.set_cons_succ]) | (refine plan_pass3 rfl rfl ?_; simp only [List.getElem_toArray, List.getElem_cons_succ, List.getElem_cons_zero, Act.put, List.setIfInBounds_toArray, List.set_cons_zero, List.set_cons_succ]) | (refine plan_take (v := ?_) rfl rfl ?_ ?_; rotate_left; (focus (intro w0; go_simp; try with_reducible rfl)); simp only [List.getElem_toArray, List.getElem_cons_succ, List.getElem_cons_zero, Act.put, List.setIfInBounds_toArray, List.set_cons_zero, List.set_cons_succ]) | (refine plan_held (v := ?_) rfl rfl hS ?_ ?_; rotate_left; (focus (intro w0 hSw; (try dsimp only at hSw); go_split_ands; go_simp; try with_reducible rfl)); simp only [List.getElem_toArray, List.getElem_cons_succ, List.getElem_cons_zero, Act.put, List.setIfInBounds_toArray, List.set_cons_zero, List.set_cons_succ])  | (refine plan_skip1 rfl rfl hS ?_; simp only [List.getElem_toArray, List.getElem_cons_succ, List.getElem_cons_zero, Act.put, List.setIfInBounds_toArray, List.set_cons_zero, List.set_cons_succ]))
      (refine plan_end rfl rfl rfl fun K hK => ?_; (try simp only [List.getElem_toArray, List.getElem_cons_succ, List.getElem_cons_zero]))
      refine wp_update_spot rfl (b := mb) (x := r) (l := rs.take j) rfl rfl (by rw [HTL.out]; rfl) HO.out.1 HTO.out HPN.out (show SpM w3.drew mb (rs.take j) from HJ.out.map.keep HMB3.out fun f => f) ?_
      intro w5 HM5 hm5
      have HJ5 : Hid (FillJ rs (.slice (some ⟨g, 0, none⟩) n cp) sv d s vb p mb w w5 (j + 1)) := Lib.hid ⟨(HJ.out.ver.keep HMB3.out fun f => f).keep hm5 (by have := HVL.out; have := HMB.out; show ¬ vb = mb; omega), hm5.cell (by have := HPL.out; have := HMB.out; show ¬ p = mb; omega) (HMB3.out.cell (fun f => f) HJ.out.box), by rw [HTS.out]; exact HM5, (HJ.out.mod.trans HMB3.out fun _ f => f.elim).trans hm5 fun x hx => .inr (by have := HMB.out; have e : x = mb := hx; omega)⟩
      refine hK _ _ ?_
      clear hK K hm5 HM5 hS HB
      try simp only [List.getElem_toArray, List.getElem_cons_succ, List.getElem_cons_zero, Act.put, List.setIfInBounds_toArray, List.set_cons_zero, List.set_cons_succ]
      repeat (first | (refine plan_skip rfl rfl ?_; simp only [List.getElem_toArray, List.getElem_cons_succ, List.getElem_cons_zero, Act.put, List.setIfInBounds_toArray, List.set_cons_zero, List.set_cons_succ]) | (refine plan_pass2 rfl rfl ?_; simp only [List.getElem_toArray, List.getElem_cons_succ, List.getElem_cons_zero, Act.put, List.setIfInBounds_toArray, List.set_cons_zero, List.set_cons_succ]) | (refine plan_pass3 rfl rfl ?_; simp only [List.getElem_toArray, List.getElem_cons_succ, List.getElem_cons_zero, Act.put, List.setIfInBounds_toArray, List.set_cons_zero, List.set_cons_succ]) | (refine plan_take (v := ?_) rfl rfl ?_ ?_; rotate_left; (focus (intro w0; go_simp; try with_reducible rfl)); simp only [List.getElem_toArray, List.getElem_cons_succ, List.getElem_cons_zero, Act.put, List.setIfInBounds_toArray, List.set_cons_zero, List.set_cons_succ]) | fail )
      refine plan_nil ?_
      go_wp2
      go_roundw
      case rel => exact ⟨j + 1, by omega, by go_num, HJ5.out⟩
      case measure => simp [intOf]; omega
    · obtain rfl : j = n := by omega
      go_wp2
      go_end0
      exact ⟨rfl, mb, HMB.out, by rw [← HL.out]; exact HJ.out⟩
end Go.Proofs.YtegjamjognpdkaaGreat
