/- The reference of rows: One: contract. -/
import Derived.Test.YtegjamjognpdkaaRefC
import Derived.Test.YtegjamjognpdkaaRowH
namespace Go.Proofs.Ytegjamjognpdkaa
open Go.RowKit
set_option linter.unusedVariables false
set_option linter.unusedSimpArgs false
set_option maxRecDepth 100000 in
set_option maxHeartbeats 4000000 in
theorem refOne_any (r : TRow) (sv : Value) (hb : adrOk r.b) (w : World) (hn : Reads w sv r.next.length (ints r.next)) :
    Calls Try.prog 18 #[.agg (r.c sv).toArray] w fun e w' => e = .returned (.bool (oneT r)) ∧ Mod (fun _ => False) w w' := by
  have hA := Blk.new w 38 (r.c sv)
  have hm : Mod (fun _ => False) w (w.alloc (.cells (r.c sv).toArray 38 (0, 0))) := (Mod.refl _ _).alloc _
  have hr := hn.keep0 hm
  obtain ⟨ad, cp, rfl, hnc, hcm, hg⟩ := hr
  unfold maxLen at hcm
  obtain ⟨n, hnl⟩ : ∃ n, n = r.next.length := ⟨_, rfl⟩
  have HL := Lib.hid hnl
  rw [← hnl] at hnc hg hA hm ⊢
  have HS : Hid ((Try.prog.info? 36).map (·.size) = some (adrC r.v6 r.b).length) := Lib.hid (by rw [adrC_len, hb.1]; exact adrSz)
  have HO := Lib.hid hb
  obtain ⟨C, hC⟩ : ∃ C, C = r.c (.slice ad n cp) := ⟨_, rfl⟩
  have h0 : C[0]? = some (.int .i64 r.vlan) := by rw [hC]; exact rowC_0 ..
  have h18 : C[18]? = some (.int .i64 r.root) := by rw [hC]; exact rowC_18 _ _ _ _ _ hb.1
  have h19 : C[19]? = some (.slice ad n cp) := by rw [hC]; exact rowC_19 _ _ _ _ _ hb.1
  have hcs : (C.drop 1).take (adrC r.v6 r.b).length = adrC r.v6 r.b := by rw [hC]; exact rowC_adrs' r _ hb.1
  rw [← hC] at hA hm hg ⊢
  have HC0 := Lib.hid h0
  have HC18 := Lib.hid h18
  have HC19 := Lib.hid h19
  have HCS := Lib.hid hcs
  clear h0 h18 hcs hC hn hnl hb
  go_enter Try.func18, Try.ntmps18
  go_wp2_with fail
  obtain ⟨W0, hW0⟩ : ∃ W0, W0 = w.alloc (.cells C.toArray 38 (0, 0)) := ⟨_, rfl⟩
  obtain ⟨pb, hpb⟩ : ∃ pb, pb = w.heap.size := ⟨_, rfl⟩
  rw [← hW0] at hA hm hg
  rw [← hpb] at hA
  try rw [← hW0]
  try rw [← hpb]
  have HA0 := Lib.hid hA
  have HM0 := Lib.hid hm
  have HG := Lib.hid hg
  clear hA hm hg hW0 hpb h19
  go_loopw [3] (fun i wr => ∃ j : Nat, j ≤ n ∧ i = .int .i64 (j : Int) ∧ Mod (fun _ => False) W0 wr ∧ ∀ t, t < j → nextOk r.next t = true) (fun i _ => n - (intOf i).toNat)
  case atStart => exact ⟨0, Nat.zero_le _, rfl, Mod.refl _ _, fun t ht => by omega⟩
  case round =>
    obtain ⟨j, hj, rfl, hmm, hall⟩ := hrel
    have HALL := Lib.hid hall
    have HMM := Lib.hid hmm
    have HA := Lib.hid (HA0.out.keep hmm fun f => f)
    have HM := Lib.hid (HM0.out.trans hmm fun _ f => f.elim)
    have c19 : wr.cell? ⟨pb, 19, none⟩ = some (.slice ad n cp) := HA.out.cell HC19.out
    clear hall hmm
    by_cases hlt : j < n
    · obtain ⟨g, o, rfl, hcg⟩ := HG.out (by omega)
      obtain ⟨x, hx⟩ : ∃ x, x = r.next.getD j 0 := ⟨_, rfl⟩
      have cj : wr.cell? ⟨g, o + j, none⟩ = some (.int .i64 x) := by rw [hx]; exact HMM.out.cell (fun f => f) (hcg j _ (ints_get _ _ (by have := HL.out; omega)))
      have HCJ := Lib.hid cj
      have HC19' := Lib.hid c19
      by_cases hx0 : x < 0
      · have HN : Hid (oneT r = false) := Lib.hid (oneT_no r j (by have := HL.out; omega) (nextOk_no _ _ (.inl (by rw [← hx]; omega))))
        clear hcg hx cj
        go_wp2_with fail
        refine wp_region_plan [] [(0, 0), (1, 1), (2, 0), (3, 0), (4, 1), (5, 0), (6, 0), (7, 0), (8, 1), (9, 0), (10, 0), (11, 1), (12, 0), (13, 0), (14, 0), (15, 0), (16, 0), (17, 0), (18, 0), (19, 1), (20, 0), (21, 0), (22, 0), (23, 1), (24, 0), (25, 1), (26, 0), (27, 0), (28, 1), (29, 0), (30, 0), (31, 0)] (fun w' : World => w'.cell? ⟨pb, 19, none⟩ = some (.slice (some ⟨g, o, none⟩) n cp) ∧ w'.cell? ⟨g, o + j, none⟩ = some (.int .i64 x)) (by kernel_rfl) (by kernel_rfl) (fun d _ _ _ _ h => by cases d <;> exact h) ?_
        repeat (first | (refine plan_skip rfl rfl ?_; simp only [List.getElem_toArray, List.getElem_cons_succ, List.getElem_cons_zero, Act.put, List.setIfInBounds_toArray, List.set_cons_zero, List.set_cons_succ]) | (refine plan_pass2 rfl rfl ?_; simp only [List.getElem_toArray, List.getElem_cons_succ, List.getElem_cons_zero, Act.put, List.setIfInBounds_toArray, List.set_cons_zero, List.set_cons_succ]) | (refine plan_pass3 rfl rfl ?_; simp only [List.getElem_toArray, List.getElem_cons_succ, List.getElem_cons_zero, Act.put, List.setIfInBounds_toArray, List.set_cons_zero, List.set_cons_succ]) | (refine plan_take (v := ?_) rfl rfl ?_ ?_; rotate_left; (focus (intro w0; go_simp; try with_reducible rfl)); simp only [List.getElem_toArray, List.getElem_cons_succ, List.getElem_cons_zero, Act.put, List.setIfInBounds_toArray, List.set_cons_zero, List.set_cons_succ]) | (refine plan_held (v := ?_) rfl rfl (⟨HC19'.out, HCJ.out⟩) ?_ ?_; rotate_left; (focus (intro w0 hSw; (try dsimp only at hSw); go_split_ands; go_simp; try with_reducible rfl)); simp only [List.getElem_toArray, List.getElem_cons_succ, List.getElem_cons_zero, Act.put, List.setIfInBounds_toArray, List.set_cons_zero, List.set_cons_succ])  | (refine plan_skip1 rfl rfl (⟨HC19'.out, HCJ.out⟩) ?_; simp only [List.getElem_toArray, List.getElem_cons_succ, List.getElem_cons_zero, Act.put, List.setIfInBounds_toArray, List.set_cons_zero, List.set_cons_succ]))
        refine plan_nil ?_
        go_wp2
        go_ret
        exact ⟨by rw [HN.out]; rfl, HM.out.drew⟩
      · have hd0 : decide (x < 0) = false := decide_eq_false hx0
        by_cases hx1 : x ≤ 65535
        · have hd1 : decide (65535 < x) = false := decide_eq_false (by omega)
          by_cases h0 : j = 0
          · have HN : Hid (nextOk r.next j = true) := Lib.hid (nextOk_yes _ _ (by rw [← hx]; omega) (.inl h0))
            subst h0
            simp only [Nat.add_zero] at cj HCJ
            clear hcg hx cj
            go_wp2_with fail
            refine wp_region_plan [] [(0, 0), (1, 1), (2, 0), (3, 0), (4, 1), (5, 0), (6, 0), (7, 0), (8, 1), (9, 0), (10, 0), (11, 1), (12, 0), (13, 0), (14, 0), (15, 0), (16, 0), (17, 0), (18, 0), (19, 1), (20, 0), (21, 0), (22, 0), (23, 1), (24, 0), (25, 1), (26, 0), (27, 0), (28, 1), (29, 0), (30, 0), (31, 0)] (fun w' : World => w'.cell? ⟨pb, 19, none⟩ = some (.slice (some ⟨g, o, none⟩) n cp) ∧ w'.cell? ⟨g, o, none⟩ = some (.int .i64 x)) (by kernel_rfl) (by kernel_rfl) (fun d _ _ _ _ h => by cases d <;> exact h) ?_
            repeat (first | (refine plan_skip rfl rfl ?_; simp only [List.getElem_toArray, List.getElem_cons_succ, List.getElem_cons_zero, Act.put, List.setIfInBounds_toArray, List.set_cons_zero, List.set_cons_succ]) | (refine plan_pass2 rfl rfl ?_; simp only [List.getElem_toArray, List.getElem_cons_succ, List.getElem_cons_zero, Act.put, List.setIfInBounds_toArray, List.set_cons_zero, List.set_cons_succ]) | (refine plan_pass3 rfl rfl ?_; simp only [List.getElem_toArray, List.getElem_cons_succ, List.getElem_cons_zero, Act.put, List.setIfInBounds_toArray, List.set_cons_zero, List.set_cons_succ]) | (refine plan_take (v := ?_) rfl rfl ?_ ?_; rotate_left; (focus (intro w0; go_simp; try with_reducible rfl)); simp only [List.getElem_toArray, List.getElem_cons_succ, List.getElem_cons_zero, Act.put, List.setIfInBounds_toArray, List.set_cons_zero, List.set_cons_succ]) | (refine plan_held (v := ?_) rfl rfl (⟨HC19'.out, HCJ.out⟩) ?_ ?_; rotate_left; (focus (intro w0 hSw; (try dsimp only at hSw); go_split_ands; go_simp; try with_reducible rfl)); simp only [List.getElem_toArray, List.getElem_cons_succ, List.getElem_cons_zero, Act.put, List.setIfInBounds_toArray, List.set_cons_zero, List.set_cons_succ])  | (refine plan_skip1 rfl rfl (⟨HC19'.out, HCJ.out⟩) ?_; simp only [List.getElem_toArray, List.getElem_cons_succ, List.getElem_cons_zero, Act.put, List.setIfInBounds_toArray, List.set_cons_zero, List.set_cons_succ]))
            refine plan_nil ?_
            go_wp2
            go_roundw
            case rel => exact ⟨1, by omega, by go_num, HMM.out.drew, fun t ht => by rw [show t = 0 by omega]; exact HN.out⟩
            case measure => simp [intOf]; omega
          · obtain ⟨k, hjk⟩ : ∃ k, j = k + 1 := ⟨j - 1, by omega⟩
            obtain ⟨y, hy⟩ : ∃ y, y = r.next.getD k 0 := ⟨_, rfl⟩
            have ck : wr.cell? ⟨g, o + k, none⟩ = some (.int .i64 y) := by rw [hy]; exact HMM.out.cell (fun f => f) (hcg k _ (ints_get _ _ (by have := HL.out; omega)))
            have HCK := Lib.hid ck
            have ek : IntKind.i64.wrap ((j : Int) - 1) = (k : Int) := by rw [show (j : Int) - 1 = (k : Int) by omega]; exact IntWalk.i64_in _ (by omega)
            have hk0 : 0 < j := by omega
            have hkn : k < n := by omega
            have HJK := Lib.hid hjk
            by_cases hyx : y < x
            · have HN : Hid (nextOk r.next j = true) := Lib.hid (nextOk_yes _ _ (by rw [← hx]; omega) (.inr (by rw [show j - 1 = k by omega, ← hx, ← hy]; exact hyx)))
              have hd2 : decide (x ≤ y) = false := decide_eq_false (by omega)
              clear hcg hx hy h0 cj ck hjk
              go_wp2_with fail
              refine wp_region_plan [] [(0, 0), (1, 1), (2, 0), (3, 0), (4, 1), (5, 0), (6, 0), (7, 0), (8, 1), (9, 0), (10, 0), (11, 1), (12, 0), (13, 0), (14, 0), (15, 0), (16, 0), (17, 0), (18, 0), (19, 1), (20, 0), (21, 0), (22, 0), (23, 1), (24, 0), (25, 1), (26, 0), (27, 0), (28, 1), (29, 0), (30, 0), (31, 0)] (fun w' : World => w'.cell? ⟨pb, 19, none⟩ = some (.slice (some ⟨g, o, none⟩) n cp) ∧ w'.cell? ⟨g, o + j, none⟩ = some (.int .i64 x) ∧ w'.cell? ⟨g, o + k, none⟩ = some (.int .i64 y)) (by kernel_rfl) (by kernel_rfl) (fun d _ _ _ _ h => by cases d <;> exact h) ?_
              repeat (first | (refine plan_skip rfl rfl ?_; simp only [List.getElem_toArray, List.getElem_cons_succ, List.getElem_cons_zero, Act.put, List.setIfInBounds_toArray, List.set_cons_zero, List.set_cons_succ]) | (refine plan_pass2 rfl rfl ?_; simp only [List.getElem_toArray, List.getElem_cons_succ, List.getElem_cons_zero, Act.put, List.setIfInBounds_toArray, List.set_cons_zero, List.set_cons_succ]) | (refine plan_pass3 rfl rfl ?_; simp only [List.getElem_toArray, List.getElem_cons_succ, List.getElem_cons_zero, Act.put, List.setIfInBounds_toArray, List.set_cons_zero, List.set_cons_succ]) | (refine plan_take (v := ?_) rfl rfl ?_ ?_; rotate_left; (focus (intro w0; go_simp; try with_reducible rfl)); simp only [List.getElem_toArray, List.getElem_cons_succ, List.getElem_cons_zero, Act.put, List.setIfInBounds_toArray, List.set_cons_zero, List.set_cons_succ]) | (refine plan_held (v := ?_) rfl rfl (⟨HC19'.out, HCJ.out, HCK.out⟩) ?_ ?_; rotate_left; (focus (intro w0 hSw; (try dsimp only at hSw); go_split_ands; go_simp; try with_reducible rfl)); simp only [List.getElem_toArray, List.getElem_cons_succ, List.getElem_cons_zero, Act.put, List.setIfInBounds_toArray, List.set_cons_zero, List.set_cons_succ])  | (refine plan_skip1 rfl rfl (⟨HC19'.out, HCJ.out, HCK.out⟩) ?_; simp only [List.getElem_toArray, List.getElem_cons_succ, List.getElem_cons_zero, Act.put, List.setIfInBounds_toArray, List.set_cons_zero, List.set_cons_succ]))
              refine plan_nil ?_
              go_wp2
              go_roundw
              case rel => exact ⟨j + 1, by omega, by go_num, HMM.out.drew, fun t ht => by rcases (show t < j ∨ t = j by omega) with h | rfl; exact HALL.out t h; exact HN.out⟩
              case measure => simp [intOf]; omega
            · have HN : Hid (oneT r = false) := Lib.hid (oneT_no r j (by have := HL.out; omega) (nextOk_no _ _ (.inr ⟨by omega, by rw [show j - 1 = k by omega, ← hx, ← hy]; exact hyx⟩)))
              have hd2 : decide (x ≤ y) = true := decide_eq_true (by omega)
              clear hcg hx hy h0 cj ck hjk
              go_wp2_with fail
              refine wp_region_plan [] [(0, 0), (1, 1), (2, 0), (3, 0), (4, 1), (5, 0), (6, 0), (7, 0), (8, 1), (9, 0), (10, 0), (11, 1), (12, 0), (13, 0), (14, 0), (15, 0), (16, 0), (17, 0), (18, 0), (19, 1), (20, 0), (21, 0), (22, 0), (23, 1), (24, 0), (25, 1), (26, 0), (27, 0), (28, 1), (29, 0), (30, 0), (31, 0)] (fun w' : World => w'.cell? ⟨pb, 19, none⟩ = some (.slice (some ⟨g, o, none⟩) n cp) ∧ w'.cell? ⟨g, o + j, none⟩ = some (.int .i64 x) ∧ w'.cell? ⟨g, o + k, none⟩ = some (.int .i64 y)) (by kernel_rfl) (by kernel_rfl) (fun d _ _ _ _ h => by cases d <;> exact h) ?_
              repeat (first | (refine plan_skip rfl rfl ?_; simp only [List.getElem_toArray, List.getElem_cons_succ, List.getElem_cons_zero, Act.put, List.setIfInBounds_toArray, List.set_cons_zero, List.set_cons_succ]) | (refine plan_pass2 rfl rfl ?_; simp only [List.getElem_toArray, List.getElem_cons_succ, List.getElem_cons_zero, Act.put, List.setIfInBounds_toArray, List.set_cons_zero, List.set_cons_succ]) | (refine plan_pass3 rfl rfl ?_; simp only [List.getElem_toArray, List.getElem_cons_succ, List.getElem_cons_zero, Act.put, List.setIfInBounds_toArray, List.set_cons_zero, List.set_cons_succ]) | (refine plan_take (v := ?_) rfl rfl ?_ ?_; rotate_left; (focus (intro w0; go_simp; try with_reducible rfl)); simp only [List.getElem_toArray, List.getElem_cons_succ, List.getElem_cons_zero, Act.put, List.setIfInBounds_toArray, List.set_cons_zero, List.set_cons_succ]) | (refine plan_held (v := ?_) rfl rfl (⟨HC19'.out, HCJ.out, HCK.out⟩) ?_ ?_; rotate_left; (focus (intro w0 hSw; (try dsimp only at hSw); go_split_ands; go_simp; try with_reducible rfl)); simp only [List.getElem_toArray, List.getElem_cons_succ, List.getElem_cons_zero, Act.put, List.setIfInBounds_toArray, List.set_cons_zero, List.set_cons_succ])  | (refine plan_skip1 rfl rfl (⟨HC19'.out, HCJ.out, HCK.out⟩) ?_; simp only [List.getElem_toArray, List.getElem_cons_succ, List.getElem_cons_zero, Act.put, List.setIfInBounds_toArray, List.set_cons_zero, List.set_cons_succ]))
              refine plan_nil ?_
              go_wp2
              go_ret
              exact ⟨by rw [HN.out]; rfl, HM.out.drew⟩
        · have HN : Hid (oneT r = false) := Lib.hid (oneT_no r j (by have := HL.out; omega) (nextOk_no _ _ (.inl (by rw [← hx]; omega))))
          have hd1 : decide (65535 < x) = true := decide_eq_true (by omega)
          clear hcg hx cj
          go_wp2_with fail
          refine wp_region_plan [] [(0, 0), (1, 1), (2, 0), (3, 0), (4, 1), (5, 0), (6, 0), (7, 0), (8, 1), (9, 0), (10, 0), (11, 1), (12, 0), (13, 0), (14, 0), (15, 0), (16, 0), (17, 0), (18, 0), (19, 1), (20, 0), (21, 0), (22, 0), (23, 1), (24, 0), (25, 1), (26, 0), (27, 0), (28, 1), (29, 0), (30, 0), (31, 0)] (fun w' : World => w'.cell? ⟨pb, 19, none⟩ = some (.slice (some ⟨g, o, none⟩) n cp) ∧ w'.cell? ⟨g, o + j, none⟩ = some (.int .i64 x)) (by kernel_rfl) (by kernel_rfl) (fun d _ _ _ _ h => by cases d <;> exact h) ?_
          repeat (first | (refine plan_skip rfl rfl ?_; simp only [List.getElem_toArray, List.getElem_cons_succ, List.getElem_cons_zero, Act.put, List.setIfInBounds_toArray, List.set_cons_zero, List.set_cons_succ]) | (refine plan_pass2 rfl rfl ?_; simp only [List.getElem_toArray, List.getElem_cons_succ, List.getElem_cons_zero, Act.put, List.setIfInBounds_toArray, List.set_cons_zero, List.set_cons_succ]) | (refine plan_pass3 rfl rfl ?_; simp only [List.getElem_toArray, List.getElem_cons_succ, List.getElem_cons_zero, Act.put, List.setIfInBounds_toArray, List.set_cons_zero, List.set_cons_succ]) | (refine plan_take (v := ?_) rfl rfl ?_ ?_; rotate_left; (focus (intro w0; go_simp; try with_reducible rfl)); simp only [List.getElem_toArray, List.getElem_cons_succ, List.getElem_cons_zero, Act.put, List.setIfInBounds_toArray, List.set_cons_zero, List.set_cons_succ]) | (refine plan_held (v := ?_) rfl rfl (⟨HC19'.out, HCJ.out⟩) ?_ ?_; rotate_left; (focus (intro w0 hSw; (try dsimp only at hSw); go_split_ands; go_simp; try with_reducible rfl)); simp only [List.getElem_toArray, List.getElem_cons_succ, List.getElem_cons_zero, Act.put, List.setIfInBounds_toArray, List.set_cons_zero, List.set_cons_succ])  | (refine plan_skip1 rfl rfl (⟨HC19'.out, HCJ.out⟩) ?_; simp only [List.getElem_toArray, List.getElem_cons_succ, List.getElem_cons_zero, Act.put, List.setIfInBounds_toArray, List.set_cons_zero, List.set_cons_succ]))
          refine plan_nil ?_
          go_wp2
          go_ret
          exact ⟨by rw [HN.out]; rfl, HM.out.drew⟩
    · obtain rfl : j = n := by omega
      have HK : Hid (oneT r = (adrGood r.v6 r.b && (adrZero r.b || adrGroup r.v6 r.b) && decide (0 ≤ r.vlan ∧ r.vlan ≤ 4094) && decide (0 ≤ r.root ∧ r.root ≤ 65535) && decide (1 ≤ j ∧ j ≤ 255))) := Lib.hid (by
        rw [oneT_all r fun t ht => HALL.out t (by have := HL.out; omega), ← HL.out])
      clear HALL hj HG hlt HA0 HM0 HMM
      obtain ⟨G, hG⟩ : ∃ G, G = adrGood r.v6 r.b := ⟨_, rfl⟩
      obtain ⟨Z, hZ⟩ : ∃ Z, Z = adrZero r.b := ⟨_, rfl⟩
      obtain ⟨R, hR⟩ : ∃ R, R = adrGroup r.v6 r.b := ⟨_, rfl⟩
      have HHG := Lib.hid hG
      have HHZ := Lib.hid hZ
      have HHR := Lib.hid hR
      rw [← hG, ← hZ, ← hR] at HK
      clear hG hZ hR
      go_wp2_with (refine wpList_load_blk rfl _ _ rfl pb 1 rfl 38 C (adrC r.v6 r.b) _ HA.out HCS.out Try.underlying36 rfl HS.out ?_)
      refine (refAGood_any _ _ HO.out.1 _).mono ?_; rintro e w1 ⟨rfl, hm⟩
      rw [← HHG.out]
      have HA1 := Lib.hid (HA.out.keep hm fun f => f)
      have HM1 := Lib.hid (HM.out.trans hm fun _ f => f.elim)
      clear hm HA HM c19
      cases G with
      | false =>
        go_wp2
        go_ret
        exact ⟨by rw [HK.out]; rfl, HM1.out⟩
      | true =>
        go_wp2_with (refine wpList_load_blk rfl _ _ rfl pb 1 rfl 38 C (adrC r.v6 r.b) _ HA1.out HCS.out Try.underlying36 rfl HS.out ?_)
        refine (refAZero_any _ _ HO.out.1 _).mono ?_; rintro e w2 ⟨rfl, hm⟩
        rw [← HHZ.out]
        have HA2 := Lib.hid (HA1.out.keep hm fun f => f)
        have HM2 := Lib.hid (HM1.out.trans hm fun _ f => f.elim)
        clear hm HA1 HM1
        cases Z with
        | true =>
          have c0 : w2.cell? ⟨pb, 0, none⟩ = some (.int .i64 r.vlan) := HA2.out.cell HC0.out
          have c18 : w2.cell? ⟨pb, 18, none⟩ = some (.int .i64 r.root) := HA2.out.cell HC18.out
          have c19 : w2.cell? ⟨pb, 19, none⟩ = some (.slice ad j cp) := HA2.out.cell HC19.out
          by_cases hv : 0 ≤ r.vlan
          · have d_hv : decide (0 ≤ r.vlan) = true := decide_eq_true hv
            by_cases hv2 : r.vlan < 4095
            · have d_hv2 : decide (r.vlan < 4095) = true := decide_eq_true hv2
              by_cases hr : 0 ≤ r.root
              · have d_hr : decide (0 ≤ r.root) = true := decide_eq_true hr
                by_cases hr2 : r.root < 65536
                · have d_hr2 : decide (r.root < 65536) = true := decide_eq_true hr2
                  by_cases hl : 0 < j
                  · have d_hl : decide (0 < j) = true := decide_eq_true hl
                    by_cases hl2 : j < 256
                    · have d_hl2 : decide ((j : Int) < 256) = true := decide_eq_true (by omega)
                      have HX : Hid (oneT r = true) := Lib.hid (by rw [HK.out, decide_eq_true (show 0 ≤ r.vlan ∧ r.vlan ≤ 4094 by omega), decide_eq_true (show 0 ≤ r.root ∧ r.root ≤ 65535 by omega), decide_eq_true (show 1 ≤ j ∧ j ≤ 255 by omega)]; rfl)
                      go_wp2
                      go_ret
                      exact ⟨by rw [HX.out]; rfl, HM2.out⟩
                    · have d_hl2 : decide ((j : Int) < 256) = false := decide_eq_false (by omega)
                      have HX : Hid (oneT r = false) := Lib.hid (by rw [HK.out, decide_eq_false (show ¬ (1 ≤ j ∧ j ≤ 255) by omega)]; simp)
                      go_wp2
                      go_ret
                      exact ⟨by rw [HX.out]; rfl, HM2.out⟩
                  · have d_hl : decide (0 < j) = false := decide_eq_false hl
                    have HX : Hid (oneT r = false) := Lib.hid (by rw [HK.out, decide_eq_false (show ¬ (1 ≤ j ∧ j ≤ 255) by omega)]; simp)
                    go_wp2
                    go_ret
                    exact ⟨by rw [HX.out]; rfl, HM2.out⟩
                · have d_hr2 : decide (r.root < 65536) = false := decide_eq_false hr2
                  have HX : Hid (oneT r = false) := Lib.hid (by rw [HK.out, decide_eq_false (show ¬ (0 ≤ r.root ∧ r.root ≤ 65535) by omega)]; simp)
                  go_wp2
                  go_ret
                  exact ⟨by rw [HX.out]; rfl, HM2.out⟩
              · have d_hr : decide (0 ≤ r.root) = false := decide_eq_false hr
                have HX : Hid (oneT r = false) := Lib.hid (by rw [HK.out, decide_eq_false (show ¬ (0 ≤ r.root ∧ r.root ≤ 65535) by omega)]; simp)
                go_wp2
                go_ret
                exact ⟨by rw [HX.out]; rfl, HM2.out⟩
            · have d_hv2 : decide (r.vlan < 4095) = false := decide_eq_false hv2
              have HX : Hid (oneT r = false) := Lib.hid (by rw [HK.out, decide_eq_false (show ¬ (0 ≤ r.vlan ∧ r.vlan ≤ 4094) by omega)]; simp)
              go_wp2
              go_ret
              exact ⟨by rw [HX.out]; rfl, HM2.out⟩
          · have d_hv : decide (0 ≤ r.vlan) = false := decide_eq_false hv
            have HX : Hid (oneT r = false) := Lib.hid (by rw [HK.out, decide_eq_false (show ¬ (0 ≤ r.vlan ∧ r.vlan ≤ 4094) by omega)]; simp)
            go_wp2
            go_ret
            exact ⟨by rw [HX.out]; rfl, HM2.out⟩
        | false =>
          go_wp2_with (refine wpList_load_blk rfl _ _ rfl pb 1 rfl 38 C (adrC r.v6 r.b) _ HA2.out HCS.out Try.underlying36 rfl HS.out ?_)
          refine (refAGroup_any _ _ HO.out.1 _).mono ?_; rintro e w3 ⟨rfl, hm⟩
          rw [← HHR.out]
          have HA3 := Lib.hid (HA2.out.keep hm fun f => f)
          have HM3 := Lib.hid (HM2.out.trans hm fun _ f => f.elim)
          clear hm HA2 HM2
          cases R with
          | false =>
            go_wp2
            go_ret
            exact ⟨by rw [HK.out]; rfl, HM3.out⟩
          | true =>
            have c0 : w3.cell? ⟨pb, 0, none⟩ = some (.int .i64 r.vlan) := HA3.out.cell HC0.out
            have c18 : w3.cell? ⟨pb, 18, none⟩ = some (.int .i64 r.root) := HA3.out.cell HC18.out
            have c19 : w3.cell? ⟨pb, 19, none⟩ = some (.slice ad j cp) := HA3.out.cell HC19.out
            by_cases hv : 0 ≤ r.vlan
            · have d_hv : decide (0 ≤ r.vlan) = true := decide_eq_true hv
              by_cases hv2 : r.vlan < 4095
              · have d_hv2 : decide (r.vlan < 4095) = true := decide_eq_true hv2
                by_cases hr : 0 ≤ r.root
                · have d_hr : decide (0 ≤ r.root) = true := decide_eq_true hr
                  by_cases hr2 : r.root < 65536
                  · have d_hr2 : decide (r.root < 65536) = true := decide_eq_true hr2
                    by_cases hl : 0 < j
                    · have d_hl : decide (0 < j) = true := decide_eq_true hl
                      by_cases hl2 : j < 256
                      · have d_hl2 : decide ((j : Int) < 256) = true := decide_eq_true (by omega)
                        have HX : Hid (oneT r = true) := Lib.hid (by rw [HK.out, decide_eq_true (show 0 ≤ r.vlan ∧ r.vlan ≤ 4094 by omega), decide_eq_true (show 0 ≤ r.root ∧ r.root ≤ 65535 by omega), decide_eq_true (show 1 ≤ j ∧ j ≤ 255 by omega)]; rfl)
                        go_wp2
                        go_ret
                        exact ⟨by rw [HX.out]; rfl, HM3.out⟩
                      · have d_hl2 : decide ((j : Int) < 256) = false := decide_eq_false (by omega)
                        have HX : Hid (oneT r = false) := Lib.hid (by rw [HK.out, decide_eq_false (show ¬ (1 ≤ j ∧ j ≤ 255) by omega)]; simp)
                        go_wp2
                        go_ret
                        exact ⟨by rw [HX.out]; rfl, HM3.out⟩
                    · have d_hl : decide (0 < j) = false := decide_eq_false hl
                      have HX : Hid (oneT r = false) := Lib.hid (by rw [HK.out, decide_eq_false (show ¬ (1 ≤ j ∧ j ≤ 255) by omega)]; simp)
                      go_wp2
                      go_ret
                      exact ⟨by rw [HX.out]; rfl, HM3.out⟩
                  · have d_hr2 : decide (r.root < 65536) = false := decide_eq_false hr2
                    have HX : Hid (oneT r = false) := Lib.hid (by rw [HK.out, decide_eq_false (show ¬ (0 ≤ r.root ∧ r.root ≤ 65535) by omega)]; simp)
                    go_wp2
                    go_ret
                    exact ⟨by rw [HX.out]; rfl, HM3.out⟩
                · have d_hr : decide (0 ≤ r.root) = false := decide_eq_false hr
                  have HX : Hid (oneT r = false) := Lib.hid (by rw [HK.out, decide_eq_false (show ¬ (0 ≤ r.root ∧ r.root ≤ 65535) by omega)]; simp)
                  go_wp2
                  go_ret
                  exact ⟨by rw [HX.out]; rfl, HM3.out⟩
              · have d_hv2 : decide (r.vlan < 4095) = false := decide_eq_false hv2
                have HX : Hid (oneT r = false) := Lib.hid (by rw [HK.out, decide_eq_false (show ¬ (0 ≤ r.vlan ∧ r.vlan ≤ 4094) by omega)]; simp)
                go_wp2
                go_ret
                exact ⟨by rw [HX.out]; rfl, HM3.out⟩
            · have d_hv : decide (0 ≤ r.vlan) = false := decide_eq_false hv
              have HX : Hid (oneT r = false) := Lib.hid (by rw [HK.out, decide_eq_false (show ¬ (0 ≤ r.vlan ∧ r.vlan ≤ 4094) by omega)]; simp)
              go_wp2
              go_ret
              exact ⟨by rw [HX.out]; rfl, HM3.out⟩
end Go.Proofs.Ytegjamjognpdkaa
