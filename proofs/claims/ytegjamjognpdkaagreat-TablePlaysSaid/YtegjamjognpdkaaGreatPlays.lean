/- TablePlays: the walk. (Printed by gen_plays.py.) -/
import Derived.Test.YtegjamjognpdkaaGreatRowH
import Derived.Test.YtegjamjognpdkaaGreatReg
import Derived.Test.YtegjamjognpdkaaGreatExt
import Derived.Test.YtegjamjognpdkaaGreatSym
import Derived.Test.YtegjamjognpdkaaGreatPlayA
import Derived.Lib.Hide
import Derived.Deep.CutBlock
namespace Go.Proofs.YtegjamjognpdkaaGreat
open Go.RowKit
set_option linter.unusedVariables false
set_option linter.unusedSimpArgs false
/-- != of two addresses -/
theorem exec_ne_adr {ev : Operand → Value} {op : Oper} {x y : Operand} {q : TypeId} (ho : op.op = .binOp .neq 25 x y q) (v : Bool) (xs : List Int) (hx : xs.length = 16) (ex : ev x = .agg (adrC v xs).toArray) (ey : ev y = .agg (adrC v xs).toArray) (w : World) :
    (execOp ev op).run Tryz.prog w = .ok (.value (.bool false)) w := by
  have h := eqIn_adr w 9997 v v xs xs hx hx
  simp only [execOp, ho, ex, ey, Sem.run_bind, run_eqGuard_agg w _ 25 _ _ _ _ adr_guard, Result.andThen_ok]
  rw [run_neq_struct, h]
  simp
theorem range_sub {w : World} {g o : Nat} {cs : List Value} (h : w.rangeAt g o cs) (k n : Nat) : w.rangeAt g (o + k) ((cs.drop k).take n) := fun j v hv => by
  rw [List.getElem?_take] at hv
  split at hv
  · rw [List.getElem?_drop] at hv
    have := h _ _ hv
    rwa [← Nat.add_assoc] at this
  · cases hv
set_option maxRecDepth 100000 in
set_option maxHeartbeats 4000000 in
theorem refSame_true (v v' : Value) (rs : List TRow) (sv sv' : Nat → Value) (w : World) (h : RowsAt w v rs sv) (h' : RowsAt w v' rs sv') :
    Calls Tryz.prog 17 #[v, v'] w fun e w' => e = .returned (.bool true) ∧ Mod (fun _ => False) w w' := by
  obtain ⟨⟨ad, cp, rfl, hnc, hcm, hg⟩, hok, hnx⟩ := h
  obtain ⟨⟨ad', cp', rfl, hnc', hcm', hg'⟩, _, hnx'⟩ := h'
  unfold maxLen at hcm hcm'
  have HG := Lib.hid hg
  have HG' := Lib.hid hg'
  have HOK := Lib.hid hok
  have HNX := Lib.hid hnx
  have HNX' := Lib.hid hnx'
  obtain ⟨n, hn⟩ : ∃ n, n = rs.length := ⟨_, rfl⟩
  rw [← hn] at HG HG' hnc hnc' ⊢
  have HL := Lib.hid hn
  clear hg hg' hok hnx hnx' hn
  go_enter Tryz.func17, Tryz.ntmps17
  go_wp2_with fail
  go_loopw [5] (fun i wr => ∃ j : Nat, j ≤ n ∧ i = .int .i64 (j : Int) ∧ Mod (fun _ => False) w wr) (fun i _ => n - (intOf i).toNat)
  case atStart => exact ⟨0, Nat.zero_le _, rfl, Mod.refl _ _⟩
  case round =>
    obtain ⟨j, hj, rfl, hm⟩ := hrel
    have HM := Lib.hid hm
    clear hm
    by_cases hlt : j < n
    · obtain ⟨g, o, rfl, hcg⟩ := HG.out (by omega)
      obtain ⟨g', o', rfl, hcg'⟩ := HG'.out (by omega)
      obtain ⟨r, hr⟩ : ∃ r, rs[j]? = some r := ⟨_, List.getElem?_eq_getElem (by have := HL.out; omega)⟩
      have ho := HOK.out r (List.mem_of_getElem? hr)
      obtain ⟨nd, nc, hsv, hk1, hk2, hk3⟩ := HNX.out j r hr
      obtain ⟨nd', nc', hsv', hk1', hk2', hk3'⟩ := HNX'.out j r hr
      obtain ⟨N, hN⟩ : ∃ N, N = r.next.length := ⟨_, rfl⟩
      unfold maxLen at hk2 hk2'
      rw [← hN] at hsv hsv' hk1 hk1' hk3 hk3'
      have HW : Hid (w.cell? ⟨g, o + j * 20 + 19, none⟩ = some (.slice nd N nc) ∧ w.cell? ⟨g', o' + j * 20 + 19, none⟩ = some (.slice nd' N nc')) := Lib.hid ⟨(rows_get hcg HOK.out hr) 19 _ (by rw [hsv]; exact rowC_19 _ _ _ _ _ ho.1), (rows_get hcg' HOK.out hr) 19 _ (by rw [hsv']; exact rowC_19 _ _ _ _ _ ho.1)⟩
      have hra := keepRange HM.out.drew (rows_get hcg HOK.out hr)
      have hra' := keepRange HM.out.drew (rows_get hcg' HOK.out hr)
      rw [hsv] at hra
      rw [hsv'] at hra'
      have HA := Lib.hid (show wr.drew.rangeAt g (o + j * 20 + 1) (adrC r.v6 r.b) by rw [← rowC_adrs r.vlan r.v6 r.b r.root (.slice nd N nc) ho.1]; exact range_sub hra 1 17)
      have HA' := Lib.hid (show wr.drew.rangeAt g' (o' + j * 20 + 1) (adrC r.v6 r.b) by rw [← rowC_adrs r.vlan r.v6 r.b r.root (.slice nd' N nc') ho.1]; exact range_sub hra' 1 17)
      have HS : Hid ((Tryz.prog.info? 25).map (·.size) = some (adrC r.v6 r.b).length) := Lib.hid (by rw [adrC_len, ho.1]; exact adrSz)
      have HC : Hid (wr.drew.cell? ⟨g, o + j * 20, none⟩ = some (.int .i64 r.vlan) ∧ wr.drew.cell? ⟨g', o' + j * 20, none⟩ = some (.int .i64 r.vlan) ∧ wr.drew.cell? ⟨g, o + j * 20 + 18, none⟩ = some (.int .i64 r.root) ∧ wr.drew.cell? ⟨g', o' + j * 20 + 18, none⟩ = some (.int .i64 r.root) ∧ wr.drew.cell? ⟨g, o + j * 20 + 19, none⟩ = some (.slice nd N nc) ∧ wr.drew.cell? ⟨g', o' + j * 20 + 19, none⟩ = some (.slice nd' N nc')) :=
        Lib.hid ⟨hra 0 _ (rowC_0 ..), hra' 0 _ (rowC_0 ..), hra 18 _ (rowC_18 _ _ _ _ _ ho.1), hra' 18 _ (rowC_18 _ _ _ _ _ ho.1), hra 19 _ (rowC_19 _ _ _ _ _ ho.1), hra' 19 _ (rowC_19 _ _ _ _ _ ho.1)⟩
      have HK3 := Lib.hid hk3
      have HK3' := Lib.hid hk3'
      have HO := Lib.hid ho
      have HN := Lib.hid hN
      clear hra hra' hk3 hk3' hsv hsv' hr hcg hcg' ho hN
      go_wp2_with fail
      refine wp_region_plan [] [(0, 0), (1, 0), (2, 0), (3, 0), (4, 1), (5, 0), (6, 0), (7, 0), (8, 0), (9, 1), (10, 0), (11, 0), (12, 0), (13, 0), (14, 0), (15, 0), (16, 1), (17, 0), (18, 0), (19, 0), (20, 0), (21, 1), (22, 0), (23, 0), (24, 0), (25, 0), (26, 0), (27, 0), (28, 0), (29, 1), (30, 0), (31, 0), (32, 0), (33, 0), (34, 1), (35, 0), (36, 0), (37, 0), (38, 0), (39, 0), (40, 0), (41, 0), (42, 1), (43, 0), (44, 0), (45, 0), (46, 0), (47, 0), (48, 1), (49, 0), (50, 0), (51, 0)] (fun w' : World => w'.rangeAt g (o + j * 20 + 1) (adrC r.v6 r.b) ∧ w'.rangeAt g' (o' + j * 20 + 1) (adrC r.v6 r.b) ∧ w'.cell? ⟨g, o + j * 20, none⟩ = some (.int .i64 r.vlan) ∧ w'.cell? ⟨g', o' + j * 20, none⟩ = some (.int .i64 r.vlan) ∧ w'.cell? ⟨g, o + j * 20 + 18, none⟩ = some (.int .i64 r.root) ∧ w'.cell? ⟨g', o' + j * 20 + 18, none⟩ = some (.int .i64 r.root) ∧ w'.cell? ⟨g, o + j * 20 + 19, none⟩ = some (.slice nd N nc) ∧ w'.cell? ⟨g', o' + j * 20 + 19, none⟩ = some (.slice nd' N nc')) (by kernel_rfl) (by kernel_rfl) (fun d _ _ _ _ h => by cases d <;> exact h) ?_
      repeat (first | (refine plan_skip rfl rfl ?_; simp only [List.getElem_toArray, List.getElem_cons_succ, List.getElem_cons_zero, Act.put, List.setIfInBounds_toArray, List.set_cons_zero, List.set_cons_succ]) | (refine plan_pass2 rfl rfl ?_; simp only [List.getElem_toArray, List.getElem_cons_succ, List.getElem_cons_zero, Act.put, List.setIfInBounds_toArray, List.set_cons_zero, List.set_cons_succ]) | (refine plan_pass3 rfl rfl ?_; simp only [List.getElem_toArray, List.getElem_cons_succ, List.getElem_cons_zero, Act.put, List.setIfInBounds_toArray, List.set_cons_zero, List.set_cons_succ]) | (refine plan_take (v := ?_) rfl rfl ?_ ?_; rotate_left; (focus (intro w0; go_simp; try with_reducible rfl)); simp only [List.getElem_toArray, List.getElem_cons_succ, List.getElem_cons_zero, Act.put, List.setIfInBounds_toArray, List.set_cons_zero, List.set_cons_succ]) | (refine plan_held (v := ?_) rfl rfl (⟨HA.out, HA'.out, HC.out⟩) ?_ ?_; rotate_left; (focus (intro w0 hSw; (try dsimp only at hSw); go_split_ands; go_simp; try with_reducible rfl)); simp only [List.getElem_toArray, List.getElem_cons_succ, List.getElem_cons_zero, Act.put, List.setIfInBounds_toArray, List.set_cons_zero, List.set_cons_succ])  | (refine plan_skip1 rfl rfl (⟨HA.out, HA'.out, HC.out⟩) ?_; simp only [List.getElem_toArray, List.getElem_cons_succ, List.getElem_cons_zero, Act.put, List.setIfInBounds_toArray, List.set_cons_zero, List.set_cons_succ]))
      (refine plan_held (v := .agg (adrC r.v6 r.b).toArray) rfl rfl (⟨HA.out, HA'.out, HC.out⟩) (fun w0 h0 => exec_load_mid _ _ rfl g (o + j * 20 + 1) rfl (adrC r.v6 r.b) _ w0 h0.1 Tryz.underlying25 rfl HS.out) ?_; try simp only [List.getElem_toArray, List.getElem_cons_succ, List.getElem_cons_zero, Act.put, List.setIfInBounds_toArray, List.set_cons_zero, List.set_cons_succ])
      repeat (first | (refine plan_skip rfl rfl ?_; simp only [List.getElem_toArray, List.getElem_cons_succ, List.getElem_cons_zero, Act.put, List.setIfInBounds_toArray, List.set_cons_zero, List.set_cons_succ]) | (refine plan_pass2 rfl rfl ?_; simp only [List.getElem_toArray, List.getElem_cons_succ, List.getElem_cons_zero, Act.put, List.setIfInBounds_toArray, List.set_cons_zero, List.set_cons_succ]) | (refine plan_pass3 rfl rfl ?_; simp only [List.getElem_toArray, List.getElem_cons_succ, List.getElem_cons_zero, Act.put, List.setIfInBounds_toArray, List.set_cons_zero, List.set_cons_succ]) | (refine plan_take (v := ?_) rfl rfl ?_ ?_; rotate_left; (focus (intro w0; go_simp; try with_reducible rfl)); simp only [List.getElem_toArray, List.getElem_cons_succ, List.getElem_cons_zero, Act.put, List.setIfInBounds_toArray, List.set_cons_zero, List.set_cons_succ]) | (refine plan_held (v := ?_) rfl rfl (⟨HA.out, HA'.out, HC.out⟩) ?_ ?_; rotate_left; (focus (intro w0 hSw; (try dsimp only at hSw); go_split_ands; go_simp; try with_reducible rfl)); simp only [List.getElem_toArray, List.getElem_cons_succ, List.getElem_cons_zero, Act.put, List.setIfInBounds_toArray, List.set_cons_zero, List.set_cons_succ])  | (refine plan_skip1 rfl rfl (⟨HA.out, HA'.out, HC.out⟩) ?_; simp only [List.getElem_toArray, List.getElem_cons_succ, List.getElem_cons_zero, Act.put, List.setIfInBounds_toArray, List.set_cons_zero, List.set_cons_succ]))
      (refine plan_held (v := .agg (adrC r.v6 r.b).toArray) rfl rfl (⟨HA.out, HA'.out, HC.out⟩) (fun w0 h0 => exec_load_mid _ _ rfl g' (o' + j * 20 + 1) rfl (adrC r.v6 r.b) _ w0 h0.2.1 Tryz.underlying25 rfl HS.out) ?_; try simp only [List.getElem_toArray, List.getElem_cons_succ, List.getElem_cons_zero, Act.put, List.setIfInBounds_toArray, List.set_cons_zero, List.set_cons_succ])
      refine plan_take (v := .bool false) rfl rfl (exec_ne_adr rfl r.v6 r.b HO.out.1 rfl rfl) ?_
      try simp only [List.getElem_toArray, List.getElem_cons_succ, List.getElem_cons_zero, Act.put, List.setIfInBounds_toArray, List.set_cons_zero, List.set_cons_succ]
      repeat (first | (refine plan_skip rfl rfl ?_; simp only [List.getElem_toArray, List.getElem_cons_succ, List.getElem_cons_zero, Act.put, List.setIfInBounds_toArray, List.set_cons_zero, List.set_cons_succ]) | (refine plan_pass2 rfl rfl ?_; simp only [List.getElem_toArray, List.getElem_cons_succ, List.getElem_cons_zero, Act.put, List.setIfInBounds_toArray, List.set_cons_zero, List.set_cons_succ]) | (refine plan_pass3 rfl rfl ?_; simp only [List.getElem_toArray, List.getElem_cons_succ, List.getElem_cons_zero, Act.put, List.setIfInBounds_toArray, List.set_cons_zero, List.set_cons_succ]) | (refine plan_take (v := ?_) rfl rfl ?_ ?_; rotate_left; (focus (intro w0; go_simp; try with_reducible rfl)); simp only [List.getElem_toArray, List.getElem_cons_succ, List.getElem_cons_zero, Act.put, List.setIfInBounds_toArray, List.set_cons_zero, List.set_cons_succ]) | (refine plan_held (v := ?_) rfl rfl (⟨HA.out, HA'.out, HC.out⟩) ?_ ?_; rotate_left; (focus (intro w0 hSw; (try dsimp only at hSw); go_split_ands; go_simp; try with_reducible rfl)); simp only [List.getElem_toArray, List.getElem_cons_succ, List.getElem_cons_zero, Act.put, List.setIfInBounds_toArray, List.set_cons_zero, List.set_cons_succ])  | (refine plan_skip1 rfl rfl (⟨HA.out, HA'.out, HC.out⟩) ?_; simp only [List.getElem_toArray, List.getElem_cons_succ, List.getElem_cons_zero, Act.put, List.setIfInBounds_toArray, List.set_cons_zero, List.set_cons_succ]))
      refine plan_nil ?_
      go_wp2_with fail
      go_loopw [6] (fun kv wr => ∃ k : Nat, k ≤ N ∧ kv = .int .i64 (k : Int) ∧ Mod (fun _ => False) w wr) (fun kv _ => N - (intOf kv).toNat)
      case atStart => exact ⟨0, Nat.zero_le _, rfl, HM.out.drew⟩
      case round =>
        obtain ⟨k, hk, rfl, hm⟩ := hrel
        have HM2 := Lib.hid hm
        have c19 : wr.cell? ⟨g, o + j * 20 + 19, none⟩ = some (.slice nd N nc) := hm.cell (fun f => f) HW.out.1
        have c19' : wr.cell? ⟨g', o' + j * 20 + 19, none⟩ = some (.slice nd' N nc') := hm.cell (fun f => f) HW.out.2
        clear hm
        by_cases hkN : k < N
        · obtain ⟨eg, eo, rfl, hx⟩ := HK3.out (by omega)
          obtain ⟨eg', eo', rfl, hx'⟩ := HK3'.out (by omega)
          obtain ⟨x, hxx⟩ : ∃ x, x = r.next.getD k 0 := ⟨_, rfl⟩
          have hS : wr.drew.cell? ⟨g, o + j * 20 + 19, none⟩ = some (.slice (some ⟨eg, eo, none⟩) N nc) ∧ wr.drew.cell? ⟨g', o' + j * 20 + 19, none⟩ = some (.slice (some ⟨eg', eo', none⟩) N nc') ∧ wr.drew.cell? ⟨eg, eo + k, none⟩ = some (.int .i64 x) ∧ wr.drew.cell? ⟨eg', eo' + k, none⟩ = some (.int .i64 x) := by
            rw [hxx]
            exact ⟨c19, c19', HM2.out.drew.cell (fun f => f) (hx k _ (ints_get _ _ (by have := HN.out; omega))), HM2.out.drew.cell (fun f => f) (hx' k _ (ints_get _ _ (by have := HN.out; omega)))⟩
          have HSS := Lib.hid hS
          clear hx hx' hxx hS
          go_wp2_with fail
          refine wp_region_plan [] [(0, 0), (1, 0), (2, 0), (3, 0), (4, 1), (5, 0), (6, 0), (7, 1), (8, 0), (9, 0), (10, 0), (11, 0), (12, 1), (13, 0), (14, 0), (15, 1), (16, 0)] (fun w' : World => w'.cell? ⟨g, o + j * 20 + 19, none⟩ = some (.slice (some ⟨eg, eo, none⟩) N nc) ∧ w'.cell? ⟨g', o' + j * 20 + 19, none⟩ = some (.slice (some ⟨eg', eo', none⟩) N nc') ∧ w'.cell? ⟨eg, eo + k, none⟩ = some (.int .i64 x) ∧ w'.cell? ⟨eg', eo' + k, none⟩ = some (.int .i64 x)) (by kernel_rfl) (by kernel_rfl) (fun d _ _ _ _ h => by cases d <;> exact h) ?_
          repeat (first | (refine plan_skip rfl rfl ?_; simp only [List.getElem_toArray, List.getElem_cons_succ, List.getElem_cons_zero, Act.put, List.setIfInBounds_toArray, List.set_cons_zero, List.set_cons_succ]) | (refine plan_pass2 rfl rfl ?_; simp only [List.getElem_toArray, List.getElem_cons_succ, List.getElem_cons_zero, Act.put, List.setIfInBounds_toArray, List.set_cons_zero, List.set_cons_succ]) | (refine plan_pass3 rfl rfl ?_; simp only [List.getElem_toArray, List.getElem_cons_succ, List.getElem_cons_zero, Act.put, List.setIfInBounds_toArray, List.set_cons_zero, List.set_cons_succ]) | (refine plan_take (v := ?_) rfl rfl ?_ ?_; rotate_left; (focus (intro w0; go_simp; try with_reducible rfl)); simp only [List.getElem_toArray, List.getElem_cons_succ, List.getElem_cons_zero, Act.put, List.setIfInBounds_toArray, List.set_cons_zero, List.set_cons_succ]) | (refine plan_held (v := ?_) rfl rfl (HSS.out) ?_ ?_; rotate_left; (focus (intro w0 hSw; (try dsimp only at hSw); go_split_ands; go_simp; try with_reducible rfl)); simp only [List.getElem_toArray, List.getElem_cons_succ, List.getElem_cons_zero, Act.put, List.setIfInBounds_toArray, List.set_cons_zero, List.set_cons_succ])  | (refine plan_skip1 rfl rfl (HSS.out) ?_; simp only [List.getElem_toArray, List.getElem_cons_succ, List.getElem_cons_zero, Act.put, List.setIfInBounds_toArray, List.set_cons_zero, List.set_cons_succ]))
          refine plan_nil ?_
          go_wp2
          go_roundw
          case rel => exact ⟨k + 1, by omega, by go_num, HM2.out.drew⟩
          case measure => simp [intOf]; omega
        · obtain rfl : k = N := by omega
          go_wp2
          go_roundw
          case rel => exact ⟨j + 1, by omega, by go_num, HM2.out⟩
          case measure => simp [intOf]; omega
    · obtain rfl : j = n := by omega
      go_wp2
      go_ret
      exact ⟨rfl, HM.out⟩
end Go.Proofs.YtegjamjognpdkaaGreat
namespace Go.Proofs.YtegjamjognpdkaaGreat
open Go.RowKit
set_option maxRecDepth 1000000 in
theorem lives35_any (w : World) : Calls Tryz.prog 19 #[] w fun e w' => e = .returned (.bool true) ∧ Mod (fun _ => False) w w' :=
  R.runs_eq (E := R.EX extL) (hE := ext_ok) (P := Tryz.prog) (n := 1000) (k := 100) (us := #[]) (xs := []) (y := .v (.c (.x (.bool true)))) (by kernel_rfl) (by kernel_rfl) (show R.LR _ _ _ from trivial) R.hu_true w
end Go.Proofs.YtegjamjognpdkaaGreat
namespace Go.Proofs.YtegjamjognpdkaaGreat
open Go.RowKit
set_option linter.unusedVariables false
set_option linter.unusedSimpArgs false
theorem intsU_one (l : List Int) : (l.map encU).length = l.length := by simp
theorem actSz : (Tryz.prog.info? 38).map (·.size) = some 3 := by kernel_rfl
theorem gap_pos {a b : Int} (h : 0 < Sr.gap a b) : ¬ wrap32 ((b - a) % 4294967296) ≤ 0 := by
  unfold Sr.gap at h
  unfold wrap32
  split at h <;> omega
set_option maxRecDepth 100000 in
set_option maxHeartbeats 40000000 in
theorem plays_walk (w : World) (av : Value) (al : List AE) (x : TRow) (svx : Value) (v : Int) (ha : ActsAt w av al) (hx : x.b.length = 16) (h1 : svx.oneCell' = true) (hv : 0 ≤ v ∧ v < 4294967296) :
    Calls Tryz.prog 3 #[av, .agg (x.c svx).toArray, .int .u32 v] w fun e w' => e = .returned (.bool true) ∧ Mod (fun _ => False) w w' := by
  have HX := Lib.hid hx
  have H1 := Lib.hid h1
  obtain ⟨ad, cp, rfl, hnc, hcm, hg⟩ := ha.row
  unfold maxLen at hcm
  have HG := Lib.hid hg
  obtain ⟨n, hn⟩ : ∃ n, n = al.length := ⟨_, rfl⟩
  have HA := Lib.hid ha
  have HL := Lib.hid hn
  rw [← hn] at hnc HG HA ⊢
  have HRZ : Hid ((Tryz.prog.info? 28).map (·.size) = some (x.c svx).length) := Lib.hid (by rw [TRow.c, rowC_len _ _ _ _ _ hx]; exact rowSz)
  obtain ⟨hv0, hv1⟩ := hv
  clear ha hx h1 hg hn
  go_enter Tryz.func3, Tryz.ntmps3
  go_wp2_with fail
  refine calls_new1 (t := 28) (cs := x.c svx) fun W1 HQ1 HM1 => ?_
  refine (New_any _).mono ?_; rintro e w1 ⟨tb, rfl, ht1, hm1⟩
  have HT1 := Lib.hid ht1
  have HMM1 := Lib.hid hm1
  clear ht1 hm1
  go_wp2_with fail
  obtain ⟨pq, hpq⟩ : ∃ pq, pq = w.heap.size := ⟨_, rfl⟩
  have HPS0 : Hid (PSt w (w1.alloc (.cells [Value.slice none 0 0, .int .u32 0, .bool false].toArray 35 (0, 0))) pq (x.c svx) tb w1.heap.size [] [] 0 0 false (fun k => W1.heap.size ≤ k ∧ k < w1.heap.size) (fun _ => False) (.slice none 0 0)) := by
    have s1 := HM1.out.size
    have hq := HQ1.out.lt
    refine Lib.hid ⟨(HT1.out.mono fun k hk hl => ⟨hk, hl⟩).keep ((Mod.refl (fun _ => False) w1).alloc _) fun _ _ f => f, ⟨Blk.new _ _ _, Row.nil _ _ _ _, fun e he => (by cases he), fun f => f⟩, fun k hk => ⟨⟨fun f => f, by omega⟩, by omega, by omega, by simp; omega⟩, fun k hk => hk.elim, ⟨by have := HMM1.out.size; omega, by have := HMM1.out.size; omega⟩, hpq ▸ (HQ1.out.keep HMM1.out fun f => f).alloc _, (HM1.out.trans HMM1.out fun _ f => f.elim).alloc _, RelT.clear⟩
  try rw [← hpq]
  clear hpq HQ1 HM1 HT1 HMM1
  go_loopw [8, 9] (fun xv iv wr => ∃ j : Nat, j ≤ n ∧ j ≤ 24 ∧ iv = .int .i64 (j : Int) ∧ ∃ xb vs es now nowR is fT fR lv, xv = .pointer (some ⟨xb, 0, none⟩) ∧ PSt w wr pq (x.c svx) tb xb vs es now nowR is fT fR lv) (fun _ iv _ => 24 - (intOf iv).toNat)
  case atStart => exact ⟨0, Nat.zero_le _, Nat.zero_le _, rfl, w1.heap.size, _, _, _, _, _, _, _, _, rfl, HPS0.out⟩
  case round =>
    clear HPS0
    obtain ⟨j, hj, hj24, rfl, xb, vs, es, now, nowR, is, fT, fR, lv, rfl, hps⟩ := hrel
    have HP := Lib.hid hps
    clear hps
    by_cases hlt : j < n ∧ j < 24
    · obtain ⟨hlt, hlt24⟩ := hlt
      have hd24 : decide ((j : Int) < 24) = true := decide_eq_true (by omega)
      obtain ⟨ga, o, rfl, hca⟩ := HG.out (by omega)
      obtain ⟨a, haj⟩ : ∃ a, al[j]? = some a := ⟨_, List.getElem?_eq_getElem (by have := HL.out; omega)⟩
      obtain ⟨⟨hav0, hav1⟩, hrs⟩ := HA.out.each a (List.mem_of_getElem? haj)
      have HRS := Lib.hid hrs
      have HRGA : Hid (wr.rangeAt ga (o + j * 3) a.c) := Lib.hid fun i u hu => HP.out.mod.cell (fun f => f) (by rw [Nat.add_assoc]; exact hca _ _ (cellsA_get al j a haj i u hu))
      have HAO : Hid (∀ u ∈ a.c, u.oneCell' = true) := Lib.hid fun u hu => by
        obtain ⟨sv, hs⟩ := hrs
        obtain ⟨_, _, er, _⟩ := hs.row
        simp [AE.c] at hu
        rcases hu with rfl | rfl | rfl
        · rfl
        · rfl
        · rw [er]; rfl
      have HNB := Lib.hid (Blk.new wr 38 [Value.int .i64 0, .int .u32 0, .slice none 0 0])
      clear hrs hca haj
      go_wp2_with (first | (refine wpList_load_midG rfl _ _ rfl ga (o + j * 3) rfl a.c _ HRGA.out Tryz.underlying38 rfl actSz ?_) | (refine wpList_store_blk rfl _ _ _ rfl wr.heap.size 0 38 [Value.int .i64 0, .int .u32 0, .slice none 0 0] a.c rfl rfl HNB.out (show 0 + 3 ≤ 3 by decide) actSz HAO.out ?_; intro w3 HB3 HM3))
      have hm3 : Mod (fun _ => False) wr w3 := ((Mod.refl _ _).alloc _).trans HM3.out fun k hk => .inr (by omega)
      have HBA := Lib.hid (splice_all HB3.out rfl).drew
      have PS3 := Lib.hid (HP.out.keep hm3.drew)
      have HPA : Hid ((∀ k, fT k → k ≠ wr.heap.size) ∧ xb ≠ wr.heap.size) := Lib.hid ⟨fun k hk => by have := (HP.out.dt k hk).2.2.2; omega, by have := HP.out.ref.tab.lt; omega⟩
      obtain ⟨pa, hpa⟩ : ∃ pa, pa = wr.heap.size := ⟨_, rfl⟩
      rw [← hpa] at HBA HPA
      try rw [← hpa]
      have hS6 : w3.drew.cell? ⟨xb, 1, none⟩ = some (.int .u32 nowR) ∧ w3.drew.cell? ⟨xb, 2, none⟩ = some (.bool is) := ⟨PS3.out.ref.tab.cell rfl, PS3.out.ref.tab.cell rfl⟩
      have HS6 := Lib.hid hS6
      clear hS6 hm3 HM3 HB3 HNB HRGA HAO HP hpa
      refine wp_region_plan [] [(0, 0), (1, 0), (2, 0), (3, 1), (4, 0), (5, 0), (6, 0), (7, 1), (8, 0), (9, 0)] (fun w' : World => w'.cell? ⟨xb, 1, none⟩ = some (.int .u32 nowR) ∧ w'.cell? ⟨xb, 2, none⟩ = some (.bool is)) (by kernel_rfl) (by kernel_rfl) (fun d _ _ _ _ h => by cases d <;> exact h) ?_
      repeat (first | (refine plan_skip rfl rfl ?_; simp only [List.getElem_toArray, List.getElem_cons_succ, List.getElem_cons_zero, Act.put, List.setIfInBounds_toArray, List.set_cons_zero, List.set_cons_succ]) | (refine plan_pass2 rfl rfl ?_; simp only [List.getElem_toArray, List.getElem_cons_succ, List.getElem_cons_zero, Act.put, List.setIfInBounds_toArray, List.set_cons_zero, List.set_cons_succ]) | (refine plan_pass3 rfl rfl ?_; simp only [List.getElem_toArray, List.getElem_cons_succ, List.getElem_cons_zero, Act.put, List.setIfInBounds_toArray, List.set_cons_zero, List.set_cons_succ]) | (refine plan_take (v := ?_) rfl rfl ?_ ?_; rotate_left; (focus (intro w0; go_simp; try with_reducible rfl)); simp only [List.getElem_toArray, List.getElem_cons_succ, List.getElem_cons_zero, Act.put, List.setIfInBounds_toArray, List.set_cons_zero, List.set_cons_succ]) | (refine plan_held (v := ?_) rfl rfl HS6.out ?_ ?_; rotate_left; (focus (intro w0 hSw; (try dsimp only at hSw); go_split_ands; go_simp; try with_reducible rfl)); simp only [List.getElem_toArray, List.getElem_cons_succ, List.getElem_cons_zero, Act.put, List.setIfInBounds_toArray, List.set_cons_zero, List.set_cons_succ])  | (refine plan_skip1 rfl rfl HS6.out ?_; simp only [List.getElem_toArray, List.getElem_cons_succ, List.getElem_cons_zero, Act.put, List.setIfInBounds_toArray, List.set_cons_zero, List.set_cons_succ]))
      refine plan_nil ?_
      have ka := HBA.out.cell (j := 0) (show a.c[0]? = some (.int .i64 a.k) from rfl)
      obtain ⟨w4, hw4⟩ : ∃ w4, w4 = w3.drew := ⟨_, rfl⟩
      rw [← hw4] at HBA PS3 ka
      try rw [← hw4]
      clear hw4 HS6
      go_upto_block 2 with fail
      go_cut [8, 12] from 24 to 222 (fun xv ev wx => ∃ (xb2 : Nat) (vs2 : List (Int × List TRow)) (es2 : List VE) (now2 nowR2 : Int) (is2 ev2 : Bool) (fT2 fR2 : Nat → Prop) (lv2 : Value), xv = .pointer (some ⟨xb2, 0, none⟩) ∧ ev = .bool ev2 ∧ PSt w wx pq (x.c svx) tb xb2 vs2 es2 now2 nowR2 is2 fT2 fR2 lv2 ∧ (ev2 = true → nowR2 ≠ nowR → 0 < Sr.gap nowR nowR2))
      case first =>
        by_cases hk0 : a.k = 0
        · have hb0 : (a.k == 0) = true := by simp [hk0]
          clear hk0
          as_aux_lemma =>
            go_wp2_with fail
            have PSD := Lib.hid (PS3.out.keep (Mod.refl _ _).drew)
            have HS : Hid (w4.drew.cell? ⟨pa, 1, none⟩ = some (.int .u32 a.v) ∧ w4.drew.cell? ⟨pa, 2, none⟩ = some a.lv) := Lib.hid ⟨HBA.out.drew.cell rfl, HBA.out.drew.cell rfl⟩
            obtain ⟨sva, hra⟩ := HRS.out
            have HRA := Lib.hid hra
            clear hra
            refine wp_region_plan [] [(0, 0), (1, 0), (2, 1), (3, 0), (4, 1), (7, 0), (8, 0), (9, 1), (10, 0), (11, 1), (5, 2), (6, 2), (12, 2), (13, 2), (14, 0)] (fun w' : World => w'.cell? ⟨pa, 1, none⟩ = some (.int .u32 a.v) ∧ w'.cell? ⟨pa, 2, none⟩ = some a.lv) (by kernel_rfl) (by kernel_rfl) (fun d _ _ _ _ h => by cases d <;> exact h) ?_
            repeat (first | (refine plan_skip rfl rfl ?_; simp only [List.getElem_toArray, List.getElem_cons_succ, List.getElem_cons_zero, Act.put, List.setIfInBounds_toArray, List.set_cons_zero, List.set_cons_succ]) | (refine plan_pass2 rfl rfl ?_; simp only [List.getElem_toArray, List.getElem_cons_succ, List.getElem_cons_zero, Act.put, List.setIfInBounds_toArray, List.set_cons_zero, List.set_cons_succ]) | (refine plan_pass3 rfl rfl ?_; simp only [List.getElem_toArray, List.getElem_cons_succ, List.getElem_cons_zero, Act.put, List.setIfInBounds_toArray, List.set_cons_zero, List.set_cons_succ]) | (refine plan_take (v := ?_) rfl rfl ?_ ?_; rotate_left; (focus (intro w0; go_simp; try with_reducible rfl)); simp only [List.getElem_toArray, List.getElem_cons_succ, List.getElem_cons_zero, Act.put, List.setIfInBounds_toArray, List.set_cons_zero, List.set_cons_succ]) | (refine plan_held (v := ?_) rfl rfl HS.out ?_ ?_; rotate_left; (focus (intro w0 hSw; (try dsimp only at hSw); go_split_ands; go_simp; try with_reducible rfl)); simp only [List.getElem_toArray, List.getElem_cons_succ, List.getElem_cons_zero, Act.put, List.setIfInBounds_toArray, List.set_cons_zero, List.set_cons_succ])  | (refine plan_skip1 rfl rfl HS.out ?_; simp only [List.getElem_toArray, List.getElem_cons_succ, List.getElem_cons_zero, Act.put, List.setIfInBounds_toArray, List.set_cons_zero, List.set_cons_succ]))
            (refine plan_do rfl rfl fun K hK => ?_; try simp only [List.getElem_toArray, List.getElem_cons_succ, List.getElem_cons_zero])
            go_simp
            refine (rows_any a.lv a.rs sva _ (HRA.out.keep PSD.out.mod)).mono ?_; rintro e w5 ⟨u1, sv1, rfl, h1r, hm5⟩
            have PS5 := Lib.hid (PSD.out.keep hm5)
            have HR1 := Lib.hid h1r.at
            have HS5 : Hid (w5.cell? ⟨pa, 1, none⟩ = some (.int .u32 a.v) ∧ w5.cell? ⟨pa, 2, none⟩ = some a.lv) := Lib.hid ⟨hm5.cell (fun f => f) HS.out.1, hm5.cell (fun f => f) HS.out.2⟩
            refine hK _ _ HS5.out ?_
            clear hK K hm5 h1r HS
            try simp only [List.getElem_toArray, List.getElem_cons_succ, List.getElem_cons_zero, Act.put, List.setIfInBounds_toArray, List.set_cons_zero, List.set_cons_succ]
            repeat (first | (refine plan_skip rfl rfl ?_; simp only [List.getElem_toArray, List.getElem_cons_succ, List.getElem_cons_zero, Act.put, List.setIfInBounds_toArray, List.set_cons_zero, List.set_cons_succ]) | (refine plan_pass2 rfl rfl ?_; simp only [List.getElem_toArray, List.getElem_cons_succ, List.getElem_cons_zero, Act.put, List.setIfInBounds_toArray, List.set_cons_zero, List.set_cons_succ]) | (refine plan_pass3 rfl rfl ?_; simp only [List.getElem_toArray, List.getElem_cons_succ, List.getElem_cons_zero, Act.put, List.setIfInBounds_toArray, List.set_cons_zero, List.set_cons_succ]) | (refine plan_take (v := ?_) rfl rfl ?_ ?_; rotate_left; (focus (intro w0; go_simp; try with_reducible rfl)); simp only [List.getElem_toArray, List.getElem_cons_succ, List.getElem_cons_zero, Act.put, List.setIfInBounds_toArray, List.set_cons_zero, List.set_cons_succ]) | (refine plan_held (v := ?_) rfl rfl HS5.out ?_ ?_; rotate_left; (focus (intro w0 hSw; (try dsimp only at hSw); go_split_ands; go_simp; try with_reducible rfl)); simp only [List.getElem_toArray, List.getElem_cons_succ, List.getElem_cons_zero, Act.put, List.setIfInBounds_toArray, List.set_cons_zero, List.set_cons_succ])  | (refine plan_skip1 rfl rfl HS5.out ?_; simp only [List.getElem_toArray, List.getElem_cons_succ, List.getElem_cons_zero, Act.put, List.setIfInBounds_toArray, List.set_cons_zero, List.set_cons_succ]))
            (refine plan_do rfl rfl fun K hK => ?_; try simp only [List.getElem_toArray, List.getElem_cons_succ, List.getElem_cons_zero])
            go_simp
            refine (Install_any PS5.out.tab PS5.out.rel.n0 PS5.out.rel.n1 a.v u1 (cutT a.rs) sv1 HR1.out (by have := PS5.out.rel.lenV; have := PS5.out.rel.len; omega)).mono ?_; rintro e w6 ⟨he, ht6, hm6⟩
            rw [PS5.out.rel.instC] at he
            obtain ⟨c, hc⟩ : ∃ c, c = rinsC es nowR is a.v (cutT a.rs) := ⟨_, rfl⟩
            rw [← hc] at he
            subst he
            have HT6 := Lib.hid ht6
            have HM6 := Lib.hid hm6
            have HC := Lib.hid hc
            have HS6 : Hid (w6.cell? ⟨pa, 1, none⟩ = some (.int .u32 a.v) ∧ w6.cell? ⟨pa, 2, none⟩ = some a.lv) := Lib.hid ⟨hm6.cell (fun f => HPA.out.1 _ f rfl) HS5.out.1, hm6.cell (fun f => HPA.out.1 _ f rfl) HS5.out.2⟩
            have HR6 := Lib.hid (HRA.out.keep (PS5.out.mod.trans hm6 fun k hk => .inr (PS5.out.dt k hk).2.2.1))
            have HX6 := Lib.hid (PS5.out.ref.keep hm6 (fun k hk e => (PS5.out.dt k e).1.1 hk) fun e => (PS5.out.dt _ e).1.2 rfl)
            refine hK _ _ HS6.out ?_
            clear hK K hm6 ht6 hc HS5 HRA HR1
            try simp only [List.getElem_toArray, List.getElem_cons_succ, List.getElem_cons_zero, Act.put, List.setIfInBounds_toArray, List.set_cons_zero, List.set_cons_succ]
            repeat (first | (refine plan_skip rfl rfl ?_; simp only [List.getElem_toArray, List.getElem_cons_succ, List.getElem_cons_zero, Act.put, List.setIfInBounds_toArray, List.set_cons_zero, List.set_cons_succ]) | (refine plan_pass2 rfl rfl ?_; simp only [List.getElem_toArray, List.getElem_cons_succ, List.getElem_cons_zero, Act.put, List.setIfInBounds_toArray, List.set_cons_zero, List.set_cons_succ]) | (refine plan_pass3 rfl rfl ?_; simp only [List.getElem_toArray, List.getElem_cons_succ, List.getElem_cons_zero, Act.put, List.setIfInBounds_toArray, List.set_cons_zero, List.set_cons_succ]) | (refine plan_take (v := ?_) rfl rfl ?_ ?_; rotate_left; (focus (intro w0; go_simp; try with_reducible rfl)); simp only [List.getElem_toArray, List.getElem_cons_succ, List.getElem_cons_zero, Act.put, List.setIfInBounds_toArray, List.set_cons_zero, List.set_cons_succ]) | (refine plan_held (v := ?_) rfl rfl HS6.out ?_ ?_; rotate_left; (focus (intro w0 hSw; (try dsimp only at hSw); go_split_ands; go_simp; try with_reducible rfl)); simp only [List.getElem_toArray, List.getElem_cons_succ, List.getElem_cons_zero, Act.put, List.setIfInBounds_toArray, List.set_cons_zero, List.set_cons_succ])  | (refine plan_skip1 rfl rfl HS6.out ?_; simp only [List.getElem_toArray, List.getElem_cons_succ, List.getElem_cons_zero, Act.put, List.setIfInBounds_toArray, List.set_cons_zero, List.set_cons_succ]))
            (refine plan_do rfl rfl fun K hK => ?_; try simp only [List.getElem_toArray, List.getElem_cons_succ, List.getElem_cons_zero])
            go_simp
            refine (rows_any a.lv a.rs sva _ HR6.out).mono ?_; rintro e w7 ⟨u2, sv2, rfl, h2r, hm7⟩
            have HM7 := Lib.hid hm7
            have HR2 := Lib.hid h2r
            have HX7 := Lib.hid (HX6.out.keep hm7 (fun _ _ f => f) fun f => f)
            have HS7 : Hid (w7.cell? ⟨pa, 1, none⟩ = some (.int .u32 a.v) ∧ w7.cell? ⟨pa, 2, none⟩ = some a.lv) := Lib.hid ⟨hm7.cell (fun f => f) HS6.out.1, hm7.cell (fun f => f) HS6.out.2⟩
            refine hK _ _ HS7.out ?_
            clear hK K hm7 h2r HS6 HX6 HR6
            try simp only [List.getElem_toArray, List.getElem_cons_succ, List.getElem_cons_zero, Act.put, List.setIfInBounds_toArray, List.set_cons_zero, List.set_cons_succ]
            repeat (first | (refine plan_skip rfl rfl ?_; simp only [List.getElem_toArray, List.getElem_cons_succ, List.getElem_cons_zero, Act.put, List.setIfInBounds_toArray, List.set_cons_zero, List.set_cons_succ]) | (refine plan_pass2 rfl rfl ?_; simp only [List.getElem_toArray, List.getElem_cons_succ, List.getElem_cons_zero, Act.put, List.setIfInBounds_toArray, List.set_cons_zero, List.set_cons_succ]) | (refine plan_pass3 rfl rfl ?_; simp only [List.getElem_toArray, List.getElem_cons_succ, List.getElem_cons_zero, Act.put, List.setIfInBounds_toArray, List.set_cons_zero, List.set_cons_succ]) | (refine plan_take (v := ?_) rfl rfl ?_ ?_; rotate_left; (focus (intro w0; go_simp; try with_reducible rfl)); simp only [List.getElem_toArray, List.getElem_cons_succ, List.getElem_cons_zero, Act.put, List.setIfInBounds_toArray, List.set_cons_zero, List.set_cons_succ]) | (refine plan_held (v := ?_) rfl rfl HS7.out ?_ ?_; rotate_left; (focus (intro w0 hSw; (try dsimp only at hSw); go_split_ands; go_simp; try with_reducible rfl)); simp only [List.getElem_toArray, List.getElem_cons_succ, List.getElem_cons_zero, Act.put, List.setIfInBounds_toArray, List.set_cons_zero, List.set_cons_succ])  | (refine plan_skip1 rfl rfl HS7.out ?_; simp only [List.getElem_toArray, List.getElem_cons_succ, List.getElem_cons_zero, Act.put, List.setIfInBounds_toArray, List.set_cons_zero, List.set_cons_succ]))
            (refine plan_do rfl rfl fun K hK => ?_; try simp only [List.getElem_toArray, List.getElem_cons_succ, List.getElem_cons_zero])
            go_simp
            refine (refInstall_any HX7.out a.v HR2.out (by have := PS5.out.ref.tab.lt; have := HM6.out.size; omega) PS5.out.rel.bd ⟨hav0, hav1⟩ PS5.out.rel.len).mono ?_; rintro e w8 ⟨he, ⟨lv8, hx8⟩, hm8⟩
            rw [← HC.out] at he
            subst he
            have HPS := Lib.hid (PS5.out.both (fl := fun _ => False) HT6.out (fun k hk _ => hk) HM6.out HM7.out hx8 (fun k hk _ => Or.elim hk (fun h => h) fun h => .inr (Nat.le_trans HM7.out.size h)) hm8 (PS5.out.rel.install ⟨hav0, hav1⟩ (cutT a.rs) u2))
            refine hK _ _ ⟨hm8.cell (fun e : pa = xb => HPA.out.2 e.symm) HS7.out.1, hm8.cell (fun e : pa = xb => HPA.out.2 e.symm) HS7.out.2⟩ ?_
            clear hK K hm8 hx8 HS7 HX7 HR2 HM7 HM6 HT6 HC PS5 PSD PS3
            try simp only [List.getElem_toArray, List.getElem_cons_succ, List.getElem_cons_zero, Act.put, List.setIfInBounds_toArray, List.set_cons_zero, List.set_cons_succ]
            repeat (first | (refine plan_skip rfl rfl ?_; simp only [List.getElem_toArray, List.getElem_cons_succ, List.getElem_cons_zero, Act.put, List.setIfInBounds_toArray, List.set_cons_zero, List.set_cons_succ]) | (refine plan_pass2 rfl rfl ?_; simp only [List.getElem_toArray, List.getElem_cons_succ, List.getElem_cons_zero, Act.put, List.setIfInBounds_toArray, List.set_cons_zero, List.set_cons_succ]) | (refine plan_pass3 rfl rfl ?_; simp only [List.getElem_toArray, List.getElem_cons_succ, List.getElem_cons_zero, Act.put, List.setIfInBounds_toArray, List.set_cons_zero, List.set_cons_succ]) | (refine plan_take (v := ?_) rfl rfl ?_ ?_; rotate_left; (focus (intro w0; go_simp; try with_reducible rfl)); simp only [List.getElem_toArray, List.getElem_cons_succ, List.getElem_cons_zero, Act.put, List.setIfInBounds_toArray, List.set_cons_zero, List.set_cons_succ]) | fail )
            refine plan_nil ?_
            go_wp2_with fail
            go_meet
            exact ⟨xb, _, _, _, _, is, is, _, _, _, rfl, rfl, HPS.out, fun _ e => absurd rfl e⟩
        · have hb0 : (a.k == 0) = false := by simp [hk0]
          by_cases hk1 : a.k = 1
          · have hb1 : (a.k == 1) = true := by simp [hk1]
            clear hk1
            as_aux_lemma =>
              go_wp2_with fail
              have PSD := Lib.hid (PS3.out.keep (Mod.refl _ _).drew)
              have HS : Hid (w4.drew.cell? ⟨pa, 1, none⟩ = some (.int .u32 a.v)) := Lib.hid (HBA.out.drew.cell rfl)
              refine wp_region_plan [] [(0, 0), (1, 0), (2, 1), (4, 0), (5, 0), (6, 1), (3, 2), (7, 2), (8, 0)] (fun w' : World => w'.cell? ⟨pa, 1, none⟩ = some (.int .u32 a.v)) (by kernel_rfl) (by kernel_rfl) (fun d _ _ _ _ h => by cases d <;> exact h) ?_
              repeat (first | (refine plan_skip rfl rfl ?_; simp only [List.getElem_toArray, List.getElem_cons_succ, List.getElem_cons_zero, Act.put, List.setIfInBounds_toArray, List.set_cons_zero, List.set_cons_succ]) | (refine plan_pass2 rfl rfl ?_; simp only [List.getElem_toArray, List.getElem_cons_succ, List.getElem_cons_zero, Act.put, List.setIfInBounds_toArray, List.set_cons_zero, List.set_cons_succ]) | (refine plan_pass3 rfl rfl ?_; simp only [List.getElem_toArray, List.getElem_cons_succ, List.getElem_cons_zero, Act.put, List.setIfInBounds_toArray, List.set_cons_zero, List.set_cons_succ]) | (refine plan_take (v := ?_) rfl rfl ?_ ?_; rotate_left; (focus (intro w0; go_simp; try with_reducible rfl)); simp only [List.getElem_toArray, List.getElem_cons_succ, List.getElem_cons_zero, Act.put, List.setIfInBounds_toArray, List.set_cons_zero, List.set_cons_succ]) | (refine plan_held (v := ?_) rfl rfl HS.out ?_ ?_; rotate_left; (focus (intro w0 hSw; (try dsimp only at hSw); go_split_ands; go_simp; try with_reducible rfl)); simp only [List.getElem_toArray, List.getElem_cons_succ, List.getElem_cons_zero, Act.put, List.setIfInBounds_toArray, List.set_cons_zero, List.set_cons_succ])  | (refine plan_skip1 rfl rfl HS.out ?_; simp only [List.getElem_toArray, List.getElem_cons_succ, List.getElem_cons_zero, Act.put, List.setIfInBounds_toArray, List.set_cons_zero, List.set_cons_succ]))
              (refine plan_do rfl rfl fun K hK => ?_; try simp only [List.getElem_toArray, List.getElem_cons_succ, List.getElem_cons_zero])
              go_simp
              refine (Commit_any PSD.out.tab PSD.out.rel.n0 PSD.out.rel.n1 ⟨hav0, hav1⟩).mono ?_; rintro e w5 ⟨he, ht5, hm5⟩
              rw [PSD.out.rel.comC] at he
              obtain ⟨c, hc⟩ : ∃ c, c = rcomC es nowR is a.v := ⟨_, rfl⟩
              rw [← hc] at he
              subst he
              have HC := Lib.hid hc
              have HT5 := Lib.hid ht5
              have HM5 := Lib.hid hm5
              have HX5 := Lib.hid (PSD.out.ref.keep hm5 (fun k hk e => (PSD.out.dt k e).1.1 hk) fun e => (PSD.out.dt _ e).1.2 rfl)
              have HS5 : Hid (w5.cell? ⟨pa, 1, none⟩ = some (.int .u32 a.v)) := Lib.hid (hm5.cell (fun f => HPA.out.1 _ f rfl) HS.out)
              refine hK _ _ HS5.out ?_
              clear hK K hm5 ht5 hc HS
              try simp only [List.getElem_toArray, List.getElem_cons_succ, List.getElem_cons_zero, Act.put, List.setIfInBounds_toArray, List.set_cons_zero, List.set_cons_succ]
              repeat (first | (refine plan_skip rfl rfl ?_; simp only [List.getElem_toArray, List.getElem_cons_succ, List.getElem_cons_zero, Act.put, List.setIfInBounds_toArray, List.set_cons_zero, List.set_cons_succ]) | (refine plan_pass2 rfl rfl ?_; simp only [List.getElem_toArray, List.getElem_cons_succ, List.getElem_cons_zero, Act.put, List.setIfInBounds_toArray, List.set_cons_zero, List.set_cons_succ]) | (refine plan_pass3 rfl rfl ?_; simp only [List.getElem_toArray, List.getElem_cons_succ, List.getElem_cons_zero, Act.put, List.setIfInBounds_toArray, List.set_cons_zero, List.set_cons_succ]) | (refine plan_take (v := ?_) rfl rfl ?_ ?_; rotate_left; (focus (intro w0; go_simp; try with_reducible rfl)); simp only [List.getElem_toArray, List.getElem_cons_succ, List.getElem_cons_zero, Act.put, List.setIfInBounds_toArray, List.set_cons_zero, List.set_cons_succ]) | (refine plan_held (v := ?_) rfl rfl HS5.out ?_ ?_; rotate_left; (focus (intro w0 hSw; (try dsimp only at hSw); go_split_ands; go_simp; try with_reducible rfl)); simp only [List.getElem_toArray, List.getElem_cons_succ, List.getElem_cons_zero, Act.put, List.setIfInBounds_toArray, List.set_cons_zero, List.set_cons_succ])  | (refine plan_skip1 rfl rfl HS5.out ?_; simp only [List.getElem_toArray, List.getElem_cons_succ, List.getElem_cons_zero, Act.put, List.setIfInBounds_toArray, List.set_cons_zero, List.set_cons_succ]))
              (refine plan_do rfl rfl fun K hK => ?_; try simp only [List.getElem_toArray, List.getElem_cons_succ, List.getElem_cons_zero])
              go_simp
              refine (refCommit_any HX5.out a.v PSD.out.rel.bd ⟨hav0, hav1⟩).mono ?_; rintro e w6 ⟨he, hx6, hm6⟩
              rw [← HC.out] at he
              subst he
              have HPS := Lib.hid (PSD.out.both (fl := fun _ => False) HT5.out (fun k hk _ => .inl hk) HM5.out (Mod.refl (fun _ => False) w5) hx6 (fun k hk _ => .inl hk) hm6 (PSD.out.rel.commit ⟨hav0, hav1⟩).1)
              have HGP := Lib.hid (PSD.out.rel.commit ⟨hav0, hav1⟩).2
              refine hK _ _ (hm6.cell (fun e : pa = xb => HPA.out.2 e.symm) HS5.out) ?_
              clear hK K hm6 hx6 HS5 HX5 HT5 HM5 HC PSD PS3
              try simp only [List.getElem_toArray, List.getElem_cons_succ, List.getElem_cons_zero, Act.put, List.setIfInBounds_toArray, List.set_cons_zero, List.set_cons_succ]
              repeat (first | (refine plan_skip rfl rfl ?_; simp only [List.getElem_toArray, List.getElem_cons_succ, List.getElem_cons_zero, Act.put, List.setIfInBounds_toArray, List.set_cons_zero, List.set_cons_succ]) | (refine plan_pass2 rfl rfl ?_; simp only [List.getElem_toArray, List.getElem_cons_succ, List.getElem_cons_zero, Act.put, List.setIfInBounds_toArray, List.set_cons_zero, List.set_cons_succ]) | (refine plan_pass3 rfl rfl ?_; simp only [List.getElem_toArray, List.getElem_cons_succ, List.getElem_cons_zero, Act.put, List.setIfInBounds_toArray, List.set_cons_zero, List.set_cons_succ]) | (refine plan_take (v := ?_) rfl rfl ?_ ?_; rotate_left; (focus (intro w0; go_simp; try with_reducible rfl)); simp only [List.getElem_toArray, List.getElem_cons_succ, List.getElem_cons_zero, Act.put, List.setIfInBounds_toArray, List.set_cons_zero, List.set_cons_succ]) | fail )
              refine plan_nil ?_
              go_wp2_with fail
              go_meet
              exact ⟨xb, _, _, _, _, _, is, _, _, _, rfl, rfl, HPS.out, HGP.out⟩
          · have hb1 : (a.k == 1) = false := by simp [hk1]
            by_cases hk2 : a.k = 2
            · have hb2 : (a.k == 2) = true := by simp [hk2]
              clear hk2
              as_aux_lemma =>
                go_wp2_with fail
                have PSD := Lib.hid (PS3.out.keep (Mod.refl _ _).drew)
                have HS : Hid (w4.drew.cell? ⟨pa, 1, none⟩ = some (.int .u32 a.v)) := Lib.hid (HBA.out.drew.cell rfl)
                refine wp_region_plan [] [(0, 0), (1, 0), (2, 1), (4, 0), (5, 0), (6, 1), (3, 2), (7, 2), (8, 0)] (fun w' : World => w'.cell? ⟨pa, 1, none⟩ = some (.int .u32 a.v)) (by kernel_rfl) (by kernel_rfl) (fun d _ _ _ _ h => by cases d <;> exact h) ?_
                repeat (first | (refine plan_skip rfl rfl ?_; simp only [List.getElem_toArray, List.getElem_cons_succ, List.getElem_cons_zero, Act.put, List.setIfInBounds_toArray, List.set_cons_zero, List.set_cons_succ]) | (refine plan_pass2 rfl rfl ?_; simp only [List.getElem_toArray, List.getElem_cons_succ, List.getElem_cons_zero, Act.put, List.setIfInBounds_toArray, List.set_cons_zero, List.set_cons_succ]) | (refine plan_pass3 rfl rfl ?_; simp only [List.getElem_toArray, List.getElem_cons_succ, List.getElem_cons_zero, Act.put, List.setIfInBounds_toArray, List.set_cons_zero, List.set_cons_succ]) | (refine plan_take (v := ?_) rfl rfl ?_ ?_; rotate_left; (focus (intro w0; go_simp; try with_reducible rfl)); simp only [List.getElem_toArray, List.getElem_cons_succ, List.getElem_cons_zero, Act.put, List.setIfInBounds_toArray, List.set_cons_zero, List.set_cons_succ]) | (refine plan_held (v := ?_) rfl rfl HS.out ?_ ?_; rotate_left; (focus (intro w0 hSw; (try dsimp only at hSw); go_split_ands; go_simp; try with_reducible rfl)); simp only [List.getElem_toArray, List.getElem_cons_succ, List.getElem_cons_zero, Act.put, List.setIfInBounds_toArray, List.set_cons_zero, List.set_cons_succ])  | (refine plan_skip1 rfl rfl HS.out ?_; simp only [List.getElem_toArray, List.getElem_cons_succ, List.getElem_cons_zero, Act.put, List.setIfInBounds_toArray, List.set_cons_zero, List.set_cons_succ]))
                (refine plan_do rfl rfl fun K hK => ?_; try simp only [List.getElem_toArray, List.getElem_cons_succ, List.getElem_cons_zero])
                go_simp
                refine (Retire_any PSD.out.tab PSD.out.rel.keysV PSD.out.rel.n0 PSD.out.rel.n1 (by rw [PSD.out.rel.lenV]; exact PSD.out.rel.len)).mono ?_; rintro e w5 ⟨vs5, he, hp, ht5, hm5⟩
                have HRL := Lib.hid (PSD.out.rel.retire a.v hp)
                obtain ⟨c, hc⟩ : ∃ c, c = (es.length : Int) - ((es.filter fun e => keepV nowR is a.v e.n).length : Int) := ⟨_, rfl⟩
                rw [HRL.out.lenV, PSD.out.rel.lenV, ← hc] at he
                subst he
                have HC := Lib.hid hc
                clear hp
                have HT5 := Lib.hid ht5
                have HM5 := Lib.hid hm5
                have HX5 := Lib.hid (PSD.out.ref.keep hm5 (fun k hk e => (PSD.out.dt k e).1.1 hk) fun e => (PSD.out.dt _ e).1.2 rfl)
                have HS5 : Hid (w5.cell? ⟨pa, 1, none⟩ = some (.int .u32 a.v)) := Lib.hid (hm5.cell (fun f => HPA.out.1 _ f rfl) HS.out)
                refine hK _ _ HS5.out ?_
                clear hK K hm5 ht5 hc HS
                try simp only [List.getElem_toArray, List.getElem_cons_succ, List.getElem_cons_zero, Act.put, List.setIfInBounds_toArray, List.set_cons_zero, List.set_cons_succ]
                repeat (first | (refine plan_skip rfl rfl ?_; simp only [List.getElem_toArray, List.getElem_cons_succ, List.getElem_cons_zero, Act.put, List.setIfInBounds_toArray, List.set_cons_zero, List.set_cons_succ]) | (refine plan_pass2 rfl rfl ?_; simp only [List.getElem_toArray, List.getElem_cons_succ, List.getElem_cons_zero, Act.put, List.setIfInBounds_toArray, List.set_cons_zero, List.set_cons_succ]) | (refine plan_pass3 rfl rfl ?_; simp only [List.getElem_toArray, List.getElem_cons_succ, List.getElem_cons_zero, Act.put, List.setIfInBounds_toArray, List.set_cons_zero, List.set_cons_succ]) | (refine plan_take (v := ?_) rfl rfl ?_ ?_; rotate_left; (focus (intro w0; go_simp; try with_reducible rfl)); simp only [List.getElem_toArray, List.getElem_cons_succ, List.getElem_cons_zero, Act.put, List.setIfInBounds_toArray, List.set_cons_zero, List.set_cons_succ]) | (refine plan_held (v := ?_) rfl rfl HS5.out ?_ ?_; rotate_left; (focus (intro w0 hSw; (try dsimp only at hSw); go_split_ands; go_simp; try with_reducible rfl)); simp only [List.getElem_toArray, List.getElem_cons_succ, List.getElem_cons_zero, Act.put, List.setIfInBounds_toArray, List.set_cons_zero, List.set_cons_succ])  | (refine plan_skip1 rfl rfl HS5.out ?_; simp only [List.getElem_toArray, List.getElem_cons_succ, List.getElem_cons_zero, Act.put, List.setIfInBounds_toArray, List.set_cons_zero, List.set_cons_succ]))
                (refine plan_do rfl rfl fun K hK => ?_; try simp only [List.getElem_toArray, List.getElem_cons_succ, List.getElem_cons_zero])
                go_simp
                refine (refRetire_any HX5.out a.v PSD.out.rel.bd ⟨hav0, hav1⟩ PSD.out.rel.keys PSD.out.rel.len).mono ?_; rintro e w6 ⟨he, ⟨lv6, hx6⟩, hm6⟩
                rw [← HC.out] at he
                subst he
                have HPS := Lib.hid (PSD.out.both (fl := fun _ => False) HT5.out (fun k hk _ => hk) HM5.out (Mod.refl (fun _ => False) w5) hx6 (fun k hk _ => hk) hm6 HRL.out)
                refine hK _ _ (hm6.cell (fun e : pa = xb => HPA.out.2 e.symm) HS5.out) ?_
                clear hK K hm6 hx6 HS5 HX5 HT5 HM5 HC PSD PS3
                try simp only [List.getElem_toArray, List.getElem_cons_succ, List.getElem_cons_zero, Act.put, List.setIfInBounds_toArray, List.set_cons_zero, List.set_cons_succ]
                repeat (first | (refine plan_skip rfl rfl ?_; simp only [List.getElem_toArray, List.getElem_cons_succ, List.getElem_cons_zero, Act.put, List.setIfInBounds_toArray, List.set_cons_zero, List.set_cons_succ]) | (refine plan_pass2 rfl rfl ?_; simp only [List.getElem_toArray, List.getElem_cons_succ, List.getElem_cons_zero, Act.put, List.setIfInBounds_toArray, List.set_cons_zero, List.set_cons_succ]) | (refine plan_pass3 rfl rfl ?_; simp only [List.getElem_toArray, List.getElem_cons_succ, List.getElem_cons_zero, Act.put, List.setIfInBounds_toArray, List.set_cons_zero, List.set_cons_succ]) | (refine plan_take (v := ?_) rfl rfl ?_ ?_; rotate_left; (focus (intro w0; go_simp; try with_reducible rfl)); simp only [List.getElem_toArray, List.getElem_cons_succ, List.getElem_cons_zero, Act.put, List.setIfInBounds_toArray, List.set_cons_zero, List.set_cons_succ]) | fail )
                refine plan_nil ?_
                go_wp2_with fail
                go_meet
                exact ⟨xb, _, _, _, _, is, is, _, _, _, rfl, rfl, HPS.out, fun _ e => absurd rfl e⟩
            · have hb2 : (a.k == 2) = false := by simp [hk2]
              by_cases hk3 : a.k = 3
              · have hb3 : (a.k == 3) = true := by simp [hk3]
                clear hk3
                as_aux_lemma =>
                  go_wp2_with fail
                  have PSD := Lib.hid (PS3.out.keep (Mod.refl _ _).drew)
                  obtain ⟨adL, cpL, elv, hnL, hcL, hgL⟩ := PSD.out.ref.row.form
                  unfold maxLen at hcL
                  obtain ⟨m, hm⟩ : ∃ m, m = es.length := ⟨_, rfl⟩
                  rw [← hm] at elv hnL hgL
                  have HS : Hid (w4.drew.cell? ⟨xb, 0, none⟩ = some (.slice adL m cpL)) := Lib.hid (by have := PSD.out.ref.tab.cell (j := 0) rfl; rwa [elv] at this)
                  have HMM := Lib.hid hm
                  clear elv hgL hm
                  refine wp_region_plan [] [(0, 0), (2, 0), (3, 0), (4, 0), (5, 1), (6, 0), (1, 2), (7, 0)] (fun w' : World => w'.cell? ⟨xb, 0, none⟩ = some (.slice adL m cpL)) (by kernel_rfl) (by kernel_rfl) (fun d _ _ _ _ h => by cases d <;> exact h) ?_
                  repeat (first | (refine plan_skip rfl rfl ?_; simp only [List.getElem_toArray, List.getElem_cons_succ, List.getElem_cons_zero, Act.put, List.setIfInBounds_toArray, List.set_cons_zero, List.set_cons_succ]) | (refine plan_pass2 rfl rfl ?_; simp only [List.getElem_toArray, List.getElem_cons_succ, List.getElem_cons_zero, Act.put, List.setIfInBounds_toArray, List.set_cons_zero, List.set_cons_succ]) | (refine plan_pass3 rfl rfl ?_; simp only [List.getElem_toArray, List.getElem_cons_succ, List.getElem_cons_zero, Act.put, List.setIfInBounds_toArray, List.set_cons_zero, List.set_cons_succ]) | (refine plan_take (v := ?_) rfl rfl ?_ ?_; rotate_left; (focus (intro w0; go_simp; try with_reducible rfl)); simp only [List.getElem_toArray, List.getElem_cons_succ, List.getElem_cons_zero, Act.put, List.setIfInBounds_toArray, List.set_cons_zero, List.set_cons_succ]) | (refine plan_held (v := ?_) rfl rfl HS.out ?_ ?_; rotate_left; (focus (intro w0 hSw; (try dsimp only at hSw); go_split_ands; go_simp; try with_reducible rfl)); simp only [List.getElem_toArray, List.getElem_cons_succ, List.getElem_cons_zero, Act.put, List.setIfInBounds_toArray, List.set_cons_zero, List.set_cons_succ])  | (refine plan_skip1 rfl rfl HS.out ?_; simp only [List.getElem_toArray, List.getElem_cons_succ, List.getElem_cons_zero, Act.put, List.setIfInBounds_toArray, List.set_cons_zero, List.set_cons_succ]))
                  (refine plan_do rfl rfl fun K hK => ?_; try simp only [List.getElem_toArray, List.getElem_cons_succ, List.getElem_cons_zero])
                  go_simp
                  refine (Clear_any PSD.out.tab (by rw [PSD.out.rel.lenV]; exact PSD.out.rel.len)).mono ?_; rintro e w5 ⟨he, ht5, hm5⟩
                  rw [PSD.out.rel.lenV, ← HMM.out] at he
                  subst he
                  have HPS := Lib.hid (PSD.out.fresh ht5 hm5 ((Mod.refl (fun _ => False) w5).alloc _) (Blk.new w5 35 [.slice none 0 0, .int .u32 0, .bool false]) (Nat.le_refl _))
                  refine hK _ _ (hm5.cell (fun f => (PSD.out.dt _ f).1.2 rfl) HS.out) ?_
                  clear hK K hm5 ht5 HS PSD PS3
                  try simp only [List.getElem_toArray, List.getElem_cons_succ, List.getElem_cons_zero, Act.put, List.setIfInBounds_toArray, List.set_cons_zero, List.set_cons_succ]
                  repeat (first | (refine plan_skip rfl rfl ?_; simp only [List.getElem_toArray, List.getElem_cons_succ, List.getElem_cons_zero, Act.put, List.setIfInBounds_toArray, List.set_cons_zero, List.set_cons_succ]) | (refine plan_pass2 rfl rfl ?_; simp only [List.getElem_toArray, List.getElem_cons_succ, List.getElem_cons_zero, Act.put, List.setIfInBounds_toArray, List.set_cons_zero, List.set_cons_succ]) | (refine plan_pass3 rfl rfl ?_; simp only [List.getElem_toArray, List.getElem_cons_succ, List.getElem_cons_zero, Act.put, List.setIfInBounds_toArray, List.set_cons_zero, List.set_cons_succ]) | (refine plan_take (v := ?_) rfl rfl ?_ ?_; rotate_left; (focus (intro w0; go_simp; try with_reducible rfl)); simp only [List.getElem_toArray, List.getElem_cons_succ, List.getElem_cons_zero, Act.put, List.setIfInBounds_toArray, List.set_cons_zero, List.set_cons_succ]) | fail )
                  refine plan_nil ?_
                  go_wp2_with fail
                  go_meet
                  exact ⟨_, _, _, _, _, false, false, _, _, _, rfl, rfl, HPS.out, fun e => by cases e⟩
              · have hb3 : (a.k == 3) = false := by simp [hk3]
                clear hk0 hk1 hk2 hk3
                as_aux_lemma =>
                  go_wp2_with fail
                  go_meet
                  exact ⟨xb, _, _, _, _, is, is, _, _, _, rfl, rfl, PS3.out, fun _ e => absurd rfl e⟩
      case rest =>
        obtain ⟨xb2, vs2, es2, now2, nowR2, is2, ev2, fT2, fR2, lv2, rfl, rfl, hps, hgap⟩ := hcut
        have HPS := Lib.hid hps
        have HGAP := Lib.hid hgap
        clear hps hgap HBA PS3 ka HPA HRS
        obtain ⟨mb, vbo, gg, hin⟩ := HPS.out.tab
        go_wp2_with fail
        refine (Current_any hin.tab HPS.out.rel.n0 HPS.out.rel.n1).mono ?_; rintro e w6 ⟨rfl, rfl⟩
        clear hin
        rw [← HPS.out.rel.hnow, ← HPS.out.rel.his]
        go_wp2_with fail
        refine (Versions_any HPS.out.tab HPS.out.rel.keysV (by rw [HPS.out.rel.lenV]; exact HPS.out.rel.len)).mono ?_; rintro e w7 ⟨lvv, ll, rfl, hp, ho, hrw, hm7⟩
        obtain rfl := HPS.out.rel.shown hp ho
        clear hp ho
        obtain ⟨adv, cpv, rfl, hnv, hcv, hgv⟩ := hrw.form
        unfold maxLen at hcv
        have HVF : Hid (∀ g, adv = some ⟨g, 0, none⟩ → ∀ k, fT2 k → k ≠ g) := Lib.hid fun g hgx k hk e => by
          have h1 := (HPS.out.dt k hk).2.2.2
          rcases hrw.1.2 with ⟨e0, _⟩ | ⟨g', _, _, e0, _⟩
          · injection e0 with e1; rw [hgx] at e1; cases e1
          · have h2 := hrw.2 g' (by rw [e0]; rfl)
            injection e0 with e1
            rw [hgx] at e1
            injection e1 with e1; injection e1 with e1
            omega
        have PS7 := Lib.hid (HPS.out.keep hm7)
        obtain ⟨m, hm⟩ : ∃ m, m = es2.length := ⟨_, rfl⟩
        have hml : (es2.map (·.n)).length = m := by rw [List.length_map, hm]
        rw [hml] at hnv hgv hrw
        rw [hml]
        have HMM := Lib.hid hm
        have HGV := Lib.hid hgv
        have HRW := Lib.hid hrw
        have hm8 : m ≤ 8 := by rw [hm]; exact HPS.out.rel.len
        obtain ⟨adL, cpL, elv, hnL, hcL, hgL⟩ := PS7.out.ref.row.form
        unfold maxLen at hcL
        rw [← hm] at elv hnL hgL
        have c0 : w7.cell? ⟨xb2, 0, none⟩ = some (.slice adL m cpL) := by have := PS7.out.ref.tab.cell (j := 0) rfl; rwa [elv] at this
        have c1 := PS7.out.ref.tab.cell (j := 1) rfl
        have c2 := PS7.out.ref.tab.cell (j := 2) rfl
        have HGL := Lib.hid hgL
        clear hm hml hgv hrw hgL elv hm7 HPS
        go_upto_region 23 with fail
        go_cut [153] from 24 to 222 (fun c wx => c = .bool false ∧ w7 = wx)
        case first =>
          by_cases hws : nowR2 = nowR
          · have hwb : (nowR != nowR2) = false := by simp [hws]
            have HWS := Lib.hid hws
            clear hws
            cases ev2 with
            | false =>
              cases is2 with
              | true =>
                as_aux_lemma =>
                  have hfd : decide (findI es2 nowR2 < 0) = false := decide_eq_false (by
                    have h1 := PS7.out.rel.find nowR2
                    have h2 : 0 < now2 := by have := PS7.out.rel.his; unfold isV at this; exact of_decide_eq_true this.symm
                    have h3 := PS7.out.rel.cur h2
                    have h4 : nowR2 = curV now2 := by rw [PS7.out.rel.hnow]; unfold shV; rw [if_pos h2]
                    rw [← h4] at h3
                    have := h1.2 h3
                    omega)
                  go_wp2_with (go_at_call 15; refine (refFind_any PS7.out.ref nowR2).mono ?_; rintro e w7 ⟨rfl, rfl⟩)
                  go_meet
                  exact ⟨rfl, rfl⟩
              | false =>
                as_aux_lemma =>
                  go_wp2_with fail
                  go_meet
                  exact ⟨rfl, rfl⟩
            | true =>
              cases is2 with
              | true =>
                as_aux_lemma =>
                  have hfd : decide (findI es2 nowR2 < 0) = false := decide_eq_false (by
                    have h1 := PS7.out.rel.find nowR2
                    have h2 : 0 < now2 := by have := PS7.out.rel.his; unfold isV at this; exact of_decide_eq_true this.symm
                    have h3 := PS7.out.rel.cur h2
                    have h4 : nowR2 = curV now2 := by rw [PS7.out.rel.hnow]; unfold shV; rw [if_pos h2]
                    rw [← h4] at h3
                    have := h1.2 h3
                    omega)
                  go_wp2_with (go_at_call 15; refine (refFind_any PS7.out.ref nowR2).mono ?_; rintro e w7 ⟨rfl, rfl⟩)
                  go_meet
                  exact ⟨rfl, rfl⟩
              | false =>
                as_aux_lemma =>
                  go_wp2_with fail
                  go_meet
                  exact ⟨rfl, rfl⟩
          · have hwb : (nowR != nowR2) = true := by simpa using fun e => hws e.symm
            have HWS := Lib.hid hws
            clear hws
            cases ev2 with
            | false =>
              cases is2 with
              | true =>
                as_aux_lemma =>
                  have hfd : decide (findI es2 nowR2 < 0) = false := decide_eq_false (by
                    have h1 := PS7.out.rel.find nowR2
                    have h2 : 0 < now2 := by have := PS7.out.rel.his; unfold isV at this; exact of_decide_eq_true this.symm
                    have h3 := PS7.out.rel.cur h2
                    have h4 : nowR2 = curV now2 := by rw [PS7.out.rel.hnow]; unfold shV; rw [if_pos h2]
                    rw [← h4] at h3
                    have := h1.2 h3
                    omega)
                  go_wp2_with (go_at_call 15; refine (refFind_any PS7.out.ref nowR2).mono ?_; rintro e w7 ⟨rfl, rfl⟩)
                  go_meet
                  exact ⟨rfl, rfl⟩
              | false =>
                as_aux_lemma =>
                  go_wp2_with fail
                  go_meet
                  exact ⟨rfl, rfl⟩
            | true =>
              have hgp : ¬ wrap32 ((nowR2 - nowR) % 4294967296) ≤ 0 := gap_pos (HGAP.out rfl HWS.out)
              have hgp2 : decide (wrap32 ((nowR2 - nowR) % 4294967296) ≤ 0) = false := decide_eq_false hgp
              cases is2 with
              | true =>
                as_aux_lemma =>
                  have hfd : decide (findI es2 nowR2 < 0) = false := decide_eq_false (by
                    have h1 := PS7.out.rel.find nowR2
                    have h2 : 0 < now2 := by have := PS7.out.rel.his; unfold isV at this; exact of_decide_eq_true this.symm
                    have h3 := PS7.out.rel.cur h2
                    have h4 : nowR2 = curV now2 := by rw [PS7.out.rel.hnow]; unfold shV; rw [if_pos h2]
                    rw [← h4] at h3
                    have := h1.2 h3
                    omega)
                  go_wp2_with (go_at_call 15; refine (refFind_any PS7.out.ref nowR2).mono ?_; rintro e w7 ⟨rfl, rfl⟩)
                  go_meet
                  exact ⟨rfl, rfl⟩
              | false =>
                as_aux_lemma =>
                  go_wp2_with fail
                  go_meet
                  exact ⟨rfl, rfl⟩
        case rest =>
          as_aux_lemma =>
            obtain ⟨rfl, rfl⟩ := hcut
            clear c1 c2 HGAP
            go_wp2_with fail
            go_loopw [16] (fun kv wr => ∃ k : Nat, k ≤ m ∧ kv = .int .i64 (k : Int) ∧ Mod (fun _ => False) w7 wr) (fun kv _ => m - (intOf kv).toNat)
            case atStart => exact ⟨0, Nat.zero_le _, rfl, Mod.refl _ _⟩
            case round =>
              obtain ⟨k, hk, rfl, hmk⟩ := hrel
              have PSK := Lib.hid (PS7.out.keep hmk)
              have HRWK := Lib.hid (HRW.out.keep hmk fun _ _ f => f)
              have d0 := hmk.cell (fun f => f) c0
              have HMK := Lib.hid hmk
              clear hmk
              by_cases hkm : k < m
              · as_aux_lemma =>
                  obtain ⟨gv, rfl, _, _, _⟩ := HGV.out (by omega)
                  obtain ⟨gl, rfl, _, _, _⟩ := HGL.out (by omega)
                  obtain ⟨en, hen⟩ : ∃ en, es2[k]? = some en := ⟨_, List.getElem?_eq_getElem (by have := HMM.out; omega)⟩
                  have hcv : ∀ W : World, Mod (fun _ => False) w7 W → W.cell? ⟨gv, k, none⟩ = some (.int .u32 en.n) := fun W hW => by
                    obtain ⟨a1, c1, e1, _, _, h3⟩ := (HRW.out.keep hW fun _ _ f => f).form
                    injection e1 with e1 _ _
                    obtain ⟨g', e2, _, _, hc⟩ := h3 (by omega)
                    rw [← e1] at e2; injection e2 with e2; injection e2 with e2; subst e2
                    exact hc k _ (by simp [hen])
                  have hcl : ∀ W : World, Mod (fun _ => False) w7 W → W.cell? ⟨gl, k * 2, none⟩ = some (.int .u32 en.n) ∧ W.cell? ⟨gl, k * 2 + 1, none⟩ = some en.rv := fun W hW => by
                    obtain ⟨a1, c1, e1, _, _, h3⟩ := (PS7.out.keep hW).ref.row.form
                    have e0 : lv2 = .slice (some ⟨gl, 0, none⟩) m cpL := by have h1 := PS7.out.ref.tab.cell (j := 0) rfl; rw [c0] at h1; injection h1 with h1; exact h1.symm
                    rw [e0] at e1
                    injection e1 with e1 _ _
                    obtain ⟨g', e2, _, _, hc⟩ := h3 (by have := HMM.out; omega)
                    rw [← e1] at e2; injection e2 with e2; injection e2 with e2; subst e2
                    exact ⟨hc _ _ (cellsV_get es2 k en hen).1, hc _ _ (cellsV_get es2 k en hen).2⟩
                  have kv := hcv _ HMK.out
                  have HAT := Lib.hid (PSK.out.rel.at (List.mem_of_getElem? hen))
                  have HEN := Lib.hid hen
                  have HCV := Lib.hid hcv
                  have HCL := Lib.hid hcl
                  clear hen hcv hcl
                  go_wp2_with fail
                  refine (tRows_any PSK.out.tab en.n).mono ?_; rintro e w8 ⟨u, svu, rfl, hru, hm8'⟩
                  rw [HAT.out] at hru ⊢
                  have HM8 := Lib.hid (HMK.out.trans hm8' fun _ f => f.elim)
                  have HRU := Lib.hid hru.at
                  have HRV : Hid (∃ sv, RowsAt w8 en.rv en.rs sv) := Lib.hid (by
                    obtain ⟨sv, hs⟩ := PSK.out.ref.rows en (List.mem_of_getElem? HEN.out)
                    exact ⟨sv, (hs.keep hm8' fun _ _ f => f).at⟩)
                  have d8 := hm8'.cell (fun f => f) d0
                  clear hru hm8' d0
                  go_wp2_with fail
                  have HS : Hid (w8.drew.cell? ⟨gv, k, none⟩ = some (.int .u32 en.n) ∧ w8.drew.cell? ⟨xb2, 0, none⟩ = some (.slice (some ⟨gl, 0, none⟩) m cpL) ∧ w8.drew.cell? ⟨gl, k * 2, none⟩ = some (.int .u32 en.n) ∧ w8.drew.cell? ⟨gl, k * 2 + 1, none⟩ = some en.rv) := Lib.hid ⟨HCV.out _ HM8.out.drew, d8, (HCL.out _ HM8.out.drew).1, (HCL.out _ HM8.out.drew).2⟩
                  refine wp_region_plan [] [(0, 0), (1, 0), (2, 0), (3, 1), (4, 0), (5, 0), (6, 0), (7, 1), (8, 0), (9, 0), (10, 0), (11, 1), (12, 0), (13, 0), (14, 0), (15, 0), (16, 0), (17, 0), (18, 0), (19, 0), (20, 0), (21, 0), (22, 1), (23, 0), (24, 0), (25, 0), (26, 1), (27, 2), (28, 0), (29, 0)] (fun w' : World => w'.cell? ⟨gv, k, none⟩ = some (.int .u32 en.n) ∧ w'.cell? ⟨xb2, 0, none⟩ = some (.slice (some ⟨gl, 0, none⟩) m cpL) ∧ w'.cell? ⟨gl, k * 2, none⟩ = some (.int .u32 en.n) ∧ w'.cell? ⟨gl, k * 2 + 1, none⟩ = some en.rv) (by kernel_rfl) (by kernel_rfl) (fun d _ _ _ _ h => by cases d <;> exact h) ?_
                  repeat (first | (refine plan_skip rfl rfl ?_; simp only [List.getElem_toArray, List.getElem_cons_succ, List.getElem_cons_zero, Act.put, List.setIfInBounds_toArray, List.set_cons_zero, List.set_cons_succ]) | (refine plan_pass2 rfl rfl ?_; simp only [List.getElem_toArray, List.getElem_cons_succ, List.getElem_cons_zero, Act.put, List.setIfInBounds_toArray, List.set_cons_zero, List.set_cons_succ]) | (refine plan_pass3 rfl rfl ?_; simp only [List.getElem_toArray, List.getElem_cons_succ, List.getElem_cons_zero, Act.put, List.setIfInBounds_toArray, List.set_cons_zero, List.set_cons_succ]) | (refine plan_take (v := ?_) rfl rfl ?_ ?_; rotate_left; (focus (intro w0; go_simp; try with_reducible rfl)); simp only [List.getElem_toArray, List.getElem_cons_succ, List.getElem_cons_zero, Act.put, List.setIfInBounds_toArray, List.set_cons_zero, List.set_cons_succ]) | (refine plan_held (v := ?_) rfl rfl HS.out ?_ ?_; rotate_left; (focus (intro w0 hSw; (try dsimp only at hSw); go_split_ands; go_simp; try with_reducible rfl)); simp only [List.getElem_toArray, List.getElem_cons_succ, List.getElem_cons_zero, Act.put, List.setIfInBounds_toArray, List.set_cons_zero, List.set_cons_succ])  | (refine plan_skip1 rfl rfl HS.out ?_; simp only [List.getElem_toArray, List.getElem_cons_succ, List.getElem_cons_zero, Act.put, List.setIfInBounds_toArray, List.set_cons_zero, List.set_cons_succ]))
                  (refine plan_do rfl rfl fun K hK => ?_; try simp only [List.getElem_toArray, List.getElem_cons_succ, List.getElem_cons_zero])
                  go_simp
                  obtain ⟨svr, hsr⟩ := HRV.out
                  refine (refSame_true u en.rv en.rs svu svr _ (HRU.out.keep (Mod.refl _ _).drew) (hsr.keep (Mod.refl _ _).drew)).mono ?_; rintro e w9 ⟨rfl, hm9⟩
                  have HM9 := Lib.hid (HM8.out.drew.trans hm9 fun _ f => f.elim)
                  refine hK _ _ ⟨HCV.out _ HM9.out, hm9.cell (fun f => f) HS.out.2.1, (HCL.out _ HM9.out).1, (HCL.out _ HM9.out).2⟩ ?_
                  clear hK K hm9 HS HRV
                  try simp only [List.getElem_toArray, List.getElem_cons_succ, List.getElem_cons_zero, Act.put, List.setIfInBounds_toArray, List.set_cons_zero, List.set_cons_succ]
                  repeat (first | (refine plan_skip rfl rfl ?_; simp only [List.getElem_toArray, List.getElem_cons_succ, List.getElem_cons_zero, Act.put, List.setIfInBounds_toArray, List.set_cons_zero, List.set_cons_succ]) | (refine plan_pass2 rfl rfl ?_; simp only [List.getElem_toArray, List.getElem_cons_succ, List.getElem_cons_zero, Act.put, List.setIfInBounds_toArray, List.set_cons_zero, List.set_cons_succ]) | (refine plan_pass3 rfl rfl ?_; simp only [List.getElem_toArray, List.getElem_cons_succ, List.getElem_cons_zero, Act.put, List.setIfInBounds_toArray, List.set_cons_zero, List.set_cons_succ]) | (refine plan_take (v := ?_) rfl rfl ?_ ?_; rotate_left; (focus (intro w0; go_simp; try with_reducible rfl)); simp only [List.getElem_toArray, List.getElem_cons_succ, List.getElem_cons_zero, Act.put, List.setIfInBounds_toArray, List.set_cons_zero, List.set_cons_succ]) | fail )
                  refine plan_nil ?_
                  go_wp2
                  go_roundw
                  case rel => exact ⟨k + 1, by omega, by go_num, HM9.out⟩
                  case measure => simp [intOf]; omega
              · obtain rfl : k = m := by omega
                rcases Nat.eq_zero_or_pos k with hk0 | hk0
                · as_aux_lemma =>
                    subst hk0
                    go_wp2_with fail
                    have PSD := Lib.hid (PSK.out.keep (Mod.refl _ _).drew)
                    refine wp_region_plan [] [(0, 0), (1, 0), (2, 0), (3, 1), (4, 2), (5, 0), (6, 0), (7, 0), (8, 0), (9, 0), (10, 0), (11, 0), (12, 0), (13, 0), (14, 0), (15, 0), (16, 0), (17, 0), (18, 1), (19, 1), (20, 2), (21, 0), (22, 0), (23, 0)] (fun w' : World => Blk w' pq 28 (x.c svx)) (by kernel_rfl) (by kernel_rfl) (fun d _ _ _ _ h => by cases d <;> exact h) ?_
                    repeat (first | (refine plan_skip rfl rfl ?_; simp only [List.getElem_toArray, List.getElem_cons_succ, List.getElem_cons_zero, Act.put, List.setIfInBounds_toArray, List.set_cons_zero, List.set_cons_succ]) | (refine plan_pass2 rfl rfl ?_; simp only [List.getElem_toArray, List.getElem_cons_succ, List.getElem_cons_zero, Act.put, List.setIfInBounds_toArray, List.set_cons_zero, List.set_cons_succ]) | (refine plan_pass3 rfl rfl ?_; simp only [List.getElem_toArray, List.getElem_cons_succ, List.getElem_cons_zero, Act.put, List.setIfInBounds_toArray, List.set_cons_zero, List.set_cons_succ]) | (refine plan_take (v := ?_) rfl rfl ?_ ?_; rotate_left; (focus (intro w0; go_simp; try with_reducible rfl)); simp only [List.getElem_toArray, List.getElem_cons_succ, List.getElem_cons_zero, Act.put, List.setIfInBounds_toArray, List.set_cons_zero, List.set_cons_succ]) | (refine plan_held (v := ?_) rfl rfl PSD.out.q ?_ ?_; rotate_left; (focus (intro w0 hSw; (try dsimp only at hSw); go_split_ands; go_simp; try with_reducible rfl)); simp only [List.getElem_toArray, List.getElem_cons_succ, List.getElem_cons_zero, Act.put, List.setIfInBounds_toArray, List.set_cons_zero, List.set_cons_succ])  | (refine plan_skip1 rfl rfl PSD.out.q ?_; simp only [List.getElem_toArray, List.getElem_cons_succ, List.getElem_cons_zero, Act.put, List.setIfInBounds_toArray, List.set_cons_zero, List.set_cons_succ]))
                    (refine plan_held (v := .agg (x.c svx).toArray) rfl rfl PSD.out.q (fun w0 h0 => exec_load_blk _ _ rfl pq 0 rfl 28 (x.c svx) (x.c svx) _ w0 h0 (List.take_of_length_le (Nat.le_refl _)) Tryz.underlying28 rfl HRZ.out) ?_; try simp only [List.getElem_toArray, List.getElem_cons_succ, List.getElem_cons_zero, Act.put, List.setIfInBounds_toArray, List.set_cons_zero, List.set_cons_succ])
                    (refine plan_do rfl rfl fun K hK => ?_; try simp only [List.getElem_toArray, List.getElem_cons_succ, List.getElem_cons_zero])
                    go_simp
                    refine (found_any PSD.out.tab PSD.out.ref (fun k hk => (PSD.out.dt k hk).1) (fun k hk => (PSD.out.dr k hk).2.2) v x HX.out H1.out (PSD.out.rel.has v)).mono ?_; rintro e w10 ⟨rfl, ht, hr, hmf⟩
                    have PS10 := Lib.hid (PSD.out.asked ht hr hmf)
                    refine hK _ _ PS10.out.q ?_
                    clear hK K ht hr hmf
                    try simp only [List.getElem_toArray, List.getElem_cons_succ, List.getElem_cons_zero, Act.put, List.setIfInBounds_toArray, List.set_cons_zero, List.set_cons_succ]
                    repeat (first | (refine plan_skip rfl rfl ?_; simp only [List.getElem_toArray, List.getElem_cons_succ, List.getElem_cons_zero, Act.put, List.setIfInBounds_toArray, List.set_cons_zero, List.set_cons_succ]) | (refine plan_pass2 rfl rfl ?_; simp only [List.getElem_toArray, List.getElem_cons_succ, List.getElem_cons_zero, Act.put, List.setIfInBounds_toArray, List.set_cons_zero, List.set_cons_succ]) | (refine plan_pass3 rfl rfl ?_; simp only [List.getElem_toArray, List.getElem_cons_succ, List.getElem_cons_zero, Act.put, List.setIfInBounds_toArray, List.set_cons_zero, List.set_cons_succ]) | (refine plan_take (v := ?_) rfl rfl ?_ ?_; rotate_left; (focus (intro w0; go_simp; try with_reducible rfl)); simp only [List.getElem_toArray, List.getElem_cons_succ, List.getElem_cons_zero, Act.put, List.setIfInBounds_toArray, List.set_cons_zero, List.set_cons_succ]) | (refine plan_held (v := ?_) rfl rfl PS10.out.q ?_ ?_; rotate_left; (focus (intro w0 hSw; (try dsimp only at hSw); go_split_ands; go_simp; try with_reducible rfl)); simp only [List.getElem_toArray, List.getElem_cons_succ, List.getElem_cons_zero, Act.put, List.setIfInBounds_toArray, List.set_cons_zero, List.set_cons_succ])  | (refine plan_skip1 rfl rfl PS10.out.q ?_; simp only [List.getElem_toArray, List.getElem_cons_succ, List.getElem_cons_zero, Act.put, List.setIfInBounds_toArray, List.set_cons_zero, List.set_cons_succ]))
                    refine plan_nil ?_
                    go_wp2
                    go_roundw
                    case rel => first | exact ⟨j + 1, by omega, by omega, by go_num, xb2, _, _, _, _, _, _, _, _, rfl, PS10.out⟩ | ((repeat apply Exists.intro); exact ⟨⟨by omega, by omega, by go_num, rfl, PS10.out⟩, rfl⟩)
                    case measure => simp [intOf]; omega
                · as_aux_lemma =>
                    obtain ⟨gv, rfl, _, _, _⟩ := HGV.out (by omega)
                    obtain ⟨q, hq⟩ : ∃ q, k = q + 1 := ⟨k - 1, by omega⟩
                    obtain ⟨en, hen⟩ : ∃ en, es2[q]? = some en := ⟨_, List.getElem?_eq_getElem (by have := HMM.out; omega)⟩
                    have ek : IntKind.i64.wrap ((k : Int) - 1) = (q : Int) := by rw [show (k : Int) - 1 = (q : Int) by omega]; exact IntWalk.i64_in _ (by omega)
                    have hqk : q < k := by omega
                    have hpos : decide ((0 : Int) < (k : Int)) = true := decide_eq_true (by omega)
                    have PSD := Lib.hid (PSK.out.keep (Mod.refl _ _).drew)
                    have hcv : ∀ W : World, Row W (fun k => w6.heap.size ≤ k) 29 1 (.slice (some ⟨gv, 0, none⟩) k cpv) k ((es2.map (·.n)).map encU) → W.cell? ⟨gv, q, none⟩ = some (.int .u32 en.n) := fun W hW => by
                      obtain ⟨a1, c1, e1, _, _, h3⟩ := hW.form
                      injection e1 with e1 _ _
                      obtain ⟨g', e2, _, _, hc⟩ := h3 (by omega)
                      rw [← e1] at e2; injection e2 with e2; injection e2 with e2; subst e2
                      exact hc q _ (by simp [hen])
                    have HCV := Lib.hid hcv
                    have HKQ := Lib.hid hq
                    have HEK : Hid (0 ≤ en.n ∧ en.n < 4294967296) := Lib.hid (PSD.out.rel.keys en (List.mem_of_getElem? hen))
                    have HS : Hid (Blk wr.drew pq 28 (x.c svx) ∧ wr.drew.cell? ⟨gv, q, none⟩ = some (.int .u32 en.n)) := Lib.hid ⟨PSD.out.q, hcv _ HRWK.out.drew⟩
                    clear hen hcv hq
                    go_wp2_with fail
                    refine wp_region_plan [] [(0, 0), (1, 0), (2, 0), (3, 1), (4, 2), (5, 0), (6, 0), (7, 0), (8, 0), (9, 0), (10, 0), (11, 0), (12, 0), (13, 0), (14, 0), (15, 0), (16, 0), (17, 0), (18, 1), (19, 1), (20, 2), (21, 0), (22, 0), (23, 0)] (fun w' : World => Blk w' pq 28 (x.c svx) ∧ w'.cell? ⟨gv, q, none⟩ = some (.int .u32 en.n)) (by kernel_rfl) (by kernel_rfl) (fun d _ _ _ _ h => by cases d <;> exact h) ?_
                    repeat (first | (refine plan_skip rfl rfl ?_; simp only [List.getElem_toArray, List.getElem_cons_succ, List.getElem_cons_zero, Act.put, List.setIfInBounds_toArray, List.set_cons_zero, List.set_cons_succ]) | (refine plan_pass2 rfl rfl ?_; simp only [List.getElem_toArray, List.getElem_cons_succ, List.getElem_cons_zero, Act.put, List.setIfInBounds_toArray, List.set_cons_zero, List.set_cons_succ]) | (refine plan_pass3 rfl rfl ?_; simp only [List.getElem_toArray, List.getElem_cons_succ, List.getElem_cons_zero, Act.put, List.setIfInBounds_toArray, List.set_cons_zero, List.set_cons_succ]) | (refine plan_take (v := ?_) rfl rfl ?_ ?_; rotate_left; (focus (intro w0; go_simp; try with_reducible rfl)); simp only [List.getElem_toArray, List.getElem_cons_succ, List.getElem_cons_zero, Act.put, List.setIfInBounds_toArray, List.set_cons_zero, List.set_cons_succ]) | (refine plan_held (v := ?_) rfl rfl HS.out ?_ ?_; rotate_left; (focus (intro w0 hSw; (try dsimp only at hSw); go_split_ands; go_simp; try with_reducible rfl)); simp only [List.getElem_toArray, List.getElem_cons_succ, List.getElem_cons_zero, Act.put, List.setIfInBounds_toArray, List.set_cons_zero, List.set_cons_succ])  | (refine plan_skip1 rfl rfl HS.out ?_; simp only [List.getElem_toArray, List.getElem_cons_succ, List.getElem_cons_zero, Act.put, List.setIfInBounds_toArray, List.set_cons_zero, List.set_cons_succ]))
                    (refine plan_held (v := .agg (x.c svx).toArray) rfl rfl HS.out (fun w0 h0 => exec_load_blk _ _ rfl pq 0 rfl 28 (x.c svx) (x.c svx) _ w0 h0.1 (List.take_of_length_le (Nat.le_refl _)) Tryz.underlying28 rfl HRZ.out) ?_; try simp only [List.getElem_toArray, List.getElem_cons_succ, List.getElem_cons_zero, Act.put, List.setIfInBounds_toArray, List.set_cons_zero, List.set_cons_succ])
                    (refine plan_do rfl rfl fun K hK => ?_; try simp only [List.getElem_toArray, List.getElem_cons_succ, List.getElem_cons_zero])
                    go_simp
                    refine (found_any PSD.out.tab PSD.out.ref (fun k hk => (PSD.out.dt k hk).1) (fun k hk => (PSD.out.dr k hk).2.2) v x HX.out H1.out (PSD.out.rel.has v)).mono ?_; rintro e w10 ⟨rfl, ht, hr, hmf⟩
                    have PS10 := Lib.hid (PSD.out.asked ht hr hmf)
                    have HS10 : Hid (Blk w10 pq 28 (x.c svx) ∧ w10.cell? ⟨gv, q, none⟩ = some (.int .u32 en.n)) := Lib.hid ⟨PS10.out.q, hmf.cell (fun hf => HVF.out gv rfl _ hf rfl) HS.out.2⟩
                    refine hK _ _ HS10.out ?_
                    clear hK K ht hr hmf
                    try simp only [List.getElem_toArray, List.getElem_cons_succ, List.getElem_cons_zero, Act.put, List.setIfInBounds_toArray, List.set_cons_zero, List.set_cons_succ]
                    repeat (first | (refine plan_skip rfl rfl ?_; simp only [List.getElem_toArray, List.getElem_cons_succ, List.getElem_cons_zero, Act.put, List.setIfInBounds_toArray, List.set_cons_zero, List.set_cons_succ]) | (refine plan_pass2 rfl rfl ?_; simp only [List.getElem_toArray, List.getElem_cons_succ, List.getElem_cons_zero, Act.put, List.setIfInBounds_toArray, List.set_cons_zero, List.set_cons_succ]) | (refine plan_pass3 rfl rfl ?_; simp only [List.getElem_toArray, List.getElem_cons_succ, List.getElem_cons_zero, Act.put, List.setIfInBounds_toArray, List.set_cons_zero, List.set_cons_succ]) | (refine plan_take (v := ?_) rfl rfl ?_ ?_; rotate_left; (focus (intro w0; go_simp; try with_reducible rfl)); simp only [List.getElem_toArray, List.getElem_cons_succ, List.getElem_cons_zero, Act.put, List.setIfInBounds_toArray, List.set_cons_zero, List.set_cons_succ]) | (refine plan_held (v := ?_) rfl rfl HS10.out ?_ ?_; rotate_left; (focus (intro w0 hSw; (try dsimp only at hSw); go_split_ands; go_simp; try with_reducible rfl)); simp only [List.getElem_toArray, List.getElem_cons_succ, List.getElem_cons_zero, Act.put, List.setIfInBounds_toArray, List.set_cons_zero, List.set_cons_succ])  | (refine plan_skip1 rfl rfl HS10.out ?_; simp only [List.getElem_toArray, List.getElem_cons_succ, List.getElem_cons_zero, Act.put, List.setIfInBounds_toArray, List.set_cons_zero, List.set_cons_succ]))
                    (refine plan_held (v := .agg (x.c svx).toArray) rfl rfl HS10.out (fun w0 h0 => exec_load_blk _ _ rfl pq 0 rfl 28 (x.c svx) (x.c svx) _ w0 h0.1 (List.take_of_length_le (Nat.le_refl _)) Tryz.underlying28 rfl HRZ.out) ?_; try simp only [List.getElem_toArray, List.getElem_cons_succ, List.getElem_cons_zero, Act.put, List.setIfInBounds_toArray, List.set_cons_zero, List.set_cons_succ])
                    (refine plan_do rfl rfl fun K hK => ?_; try simp only [List.getElem_toArray, List.getElem_cons_succ, List.getElem_cons_zero])
                    go_simp
                    refine (found_any PS10.out.tab PS10.out.ref (fun k hk => (PS10.out.dt k hk).1) (fun k hk => (PS10.out.dr k hk).2.2) en.n x HX.out H1.out (PS10.out.rel.has en.n)).mono ?_; rintro e w11 ⟨rfl, ht, hr, hmf⟩
                    have PS11 := Lib.hid (PS10.out.asked ht hr hmf)
                    refine hK _ _ ⟨PS11.out.q, hmf.cell (fun hf => hf.1.elim (fun hf => HVF.out gv rfl _ hf rfl) fun hf => by have := World.block_lt_of_cell? _ _ HS.out.2; have h1 : wr.drew.heap.size ≤ gv := hf; have h2 : gv < wr.drew.heap.size := this; omega) HS10.out.2⟩ ?_
                    clear hK K ht hr hmf
                    try simp only [List.getElem_toArray, List.getElem_cons_succ, List.getElem_cons_zero, Act.put, List.setIfInBounds_toArray, List.set_cons_zero, List.set_cons_succ]
                    repeat (first | (refine plan_skip rfl rfl ?_; simp only [List.getElem_toArray, List.getElem_cons_succ, List.getElem_cons_zero, Act.put, List.setIfInBounds_toArray, List.set_cons_zero, List.set_cons_succ]) | (refine plan_pass2 rfl rfl ?_; simp only [List.getElem_toArray, List.getElem_cons_succ, List.getElem_cons_zero, Act.put, List.setIfInBounds_toArray, List.set_cons_zero, List.set_cons_succ]) | (refine plan_pass3 rfl rfl ?_; simp only [List.getElem_toArray, List.getElem_cons_succ, List.getElem_cons_zero, Act.put, List.setIfInBounds_toArray, List.set_cons_zero, List.set_cons_succ]) | (refine plan_take (v := ?_) rfl rfl ?_ ?_; rotate_left; (focus (intro w0; go_simp; try with_reducible rfl)); simp only [List.getElem_toArray, List.getElem_cons_succ, List.getElem_cons_zero, Act.put, List.setIfInBounds_toArray, List.set_cons_zero, List.set_cons_succ]) | fail )
                    refine plan_nil ?_
                    go_wp2
                    go_roundw
                    case rel => exact ⟨j + 1, by omega, by omega, by go_num, xb2, _, _, _, _, _, _, _, _, rfl, PS11.out⟩
                    case measure => simp [intOf]; omega
    · have hx : ¬ j < n ∨ (j < n ∧ decide ((j : Int) < 24) = false) := by
        by_cases h : j < n
        · exact .inr ⟨h, decide_eq_false (by omega)⟩
        · exact .inl h
      clear hlt
      rcases hx with hx | ⟨hx, hx2⟩
      all_goals
        as_aux_lemma =>
          go_wp2_with fail
          refine (tRows_any HP.out.tab v).mono ?_; rintro e w8 ⟨u, svu, rfl, hru, hm8⟩
          have PS8 := Lib.hid (HP.out.keep hm8)
          obtain ⟨b, hb⟩ : ∃ b, b = (hasV vs v).isSome := ⟨_, rfl⟩
          have hfd : decide (0 ≤ findI es v) = b := by
            have h1 := PS8.out.rel.find v
            rw [← hb] at h1
            cases b with
            | true => exact decide_eq_true (h1.2 rfl)
            | false => exact decide_eq_false fun h => Bool.noConfusion (h1.1 h)
          rw [← hb]
          clear hb hru hm8
          cases b
          all_goals
            go_wp2_with (first | (go_at_call 15; refine (refFind_any PS8.out.ref v).mono ?_; rintro e w9 ⟨rfl, rfl⟩) | (go_at_call 19; refine (lives35_any _).mono ?_; rintro e w10 ⟨rfl, hm10⟩))
            go_ret
            exact ⟨rfl, PS8.out.mod.trans hm10 fun _ f => f.elim⟩
end Go.Proofs.YtegjamjognpdkaaGreat
