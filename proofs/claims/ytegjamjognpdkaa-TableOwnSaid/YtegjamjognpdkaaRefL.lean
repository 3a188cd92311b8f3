/- The reference of rows: Same, of two lists that hold the same rows: contract. -/
import Derived.Test.YtegjamjognpdkaaRowH
import Derived.Test.YtegjamjognpdkaaReg
namespace Go.Proofs.Ytegjamjognpdkaa
open Go.RowKit
set_option linter.unusedVariables false
set_option linter.unusedSimpArgs false
/-- != of two addresses -/
theorem exec_ne_adr {ev : Operand → Value} {op : Oper} {x y : Operand} {q : TypeId} (ho : op.op = .binOp .neq 36 x y q) (v : Bool) (xs : List Int) (hx : xs.length = 16) (ex : ev x = .agg (adrC v xs).toArray) (ey : ev y = .agg (adrC v xs).toArray) (w : World) :
    (execOp ev op).run Try.prog w = .ok (.value (.bool false)) w := by
  have h := eqIn_adr w 9997 v v xs xs hx hx
  simp only [execOp, ho, ex, ey, Sem.run_bind, run_eqGuard_agg w _ 36 _ _ _ _ adr_guard, Result.andThen_ok]
  rw [run_neq_struct, h]
  simp
theorem range_sub {w : World} {g o : Nat} {cs : List Value} (h : w.rangeAt g o cs) (k n : Nat) : w.rangeAt g (o + k) ((cs.drop k).take n) := fun j v hv => by
  rw [List.getElem?_take] at hv
  split at hv
  · rw [List.getElem?_drop] at hv
    have := h _ _ hv
    rwa [← Nat.add_assoc] at this
  · cases hv
set_option maxRecDepth 100000 in
set_option maxHeartbeats 4000000 in
theorem refSame_true (v v' : Value) (rs : List TRow) (sv sv' : Nat → Value) (w : World) (h : RowsAt w v rs sv) (h' : RowsAt w v' rs sv') :
    Calls Try.prog 11 #[v, v'] w fun e w' => e = .returned (.bool true) ∧ Mod (fun _ => False) w w' := by
  obtain ⟨⟨ad, cp, rfl, hnc, hcm, hg⟩, hok, hnx⟩ := h
  obtain ⟨⟨ad', cp', rfl, hnc', hcm', hg'⟩, _, hnx'⟩ := h'
  unfold maxLen at hcm hcm'
  have HG := Lib.hid hg
  have HG' := Lib.hid hg'
  have HOK := Lib.hid hok
  have HNX := Lib.hid hnx
  have HNX' := Lib.hid hnx'
  obtain ⟨n, hn⟩ : ∃ n, n = rs.length := ⟨_, rfl⟩
  rw [← hn] at HG HG' hnc hnc' ⊢
  have HL := Lib.hid hn
  clear hg hg' hok hnx hnx' hn
  go_enter Try.func11, Try.ntmps11
  go_wp2_with fail
  go_loopw [5] (fun i wr => ∃ j : Nat, j ≤ n ∧ i = .int .i64 (j : Int) ∧ Mod (fun _ => False) w wr) (fun i _ => n - (intOf i).toNat)
  case atStart => exact ⟨0, Nat.zero_le _, rfl, Mod.refl _ _⟩
  case round =>
    obtain ⟨j, hj, rfl, hm⟩ := hrel
    have HM := Lib.hid hm
    clear hm
    by_cases hlt : j < n
    · obtain ⟨g, o, rfl, hcg⟩ := HG.out (by omega)
      obtain ⟨g', o', rfl, hcg'⟩ := HG'.out (by omega)
      obtain ⟨r, hr⟩ : ∃ r, rs[j]? = some r := ⟨_, List.getElem?_eq_getElem (by have := HL.out; omega)⟩
      have ho := HOK.out r (List.mem_of_getElem? hr)
      obtain ⟨nd, nc, hsv, hk1, hk2, hk3⟩ := HNX.out j r hr
      obtain ⟨nd', nc', hsv', hk1', hk2', hk3'⟩ := HNX'.out j r hr
      obtain ⟨N, hN⟩ : ∃ N, N = r.next.length := ⟨_, rfl⟩
      unfold maxLen at hk2 hk2'
      rw [← hN] at hsv hsv' hk1 hk1' hk3 hk3'
      have HW : Hid (w.cell? ⟨g, o + j * 20 + 19, none⟩ = some (.slice nd N nc) ∧ w.cell? ⟨g', o' + j * 20 + 19, none⟩ = some (.slice nd' N nc')) := Lib.hid ⟨(rows_get hcg HOK.out hr) 19 _ (by rw [hsv]; exact rowC_19 _ _ _ _ _ ho.1), (rows_get hcg' HOK.out hr) 19 _ (by rw [hsv']; exact rowC_19 _ _ _ _ _ ho.1)⟩
      have hra := keepRange HM.out.drew (rows_get hcg HOK.out hr)
      have hra' := keepRange HM.out.drew (rows_get hcg' HOK.out hr)
      rw [hsv] at hra
      rw [hsv'] at hra'
      have HA := Lib.hid (show wr.drew.rangeAt g (o + j * 20 + 1) (adrC r.v6 r.b) by rw [← rowC_adrs r.vlan r.v6 r.b r.root (.slice nd N nc) ho.1]; exact range_sub hra 1 17)
      have HA' := Lib.hid (show wr.drew.rangeAt g' (o' + j * 20 + 1) (adrC r.v6 r.b) by rw [← rowC_adrs r.vlan r.v6 r.b r.root (.slice nd' N nc') ho.1]; exact range_sub hra' 1 17)
      have HS : Hid ((Try.prog.info? 36).map (·.size) = some (adrC r.v6 r.b).length) := Lib.hid (by rw [adrC_len, ho.1]; exact adrSz)
      have HC : Hid (wr.drew.cell? ⟨g, o + j * 20, none⟩ = some (.int .i64 r.vlan) ∧ wr.drew.cell? ⟨g', o' + j * 20, none⟩ = some (.int .i64 r.vlan) ∧ wr.drew.cell? ⟨g, o + j * 20 + 18, none⟩ = some (.int .i64 r.root) ∧ wr.drew.cell? ⟨g', o' + j * 20 + 18, none⟩ = some (.int .i64 r.root) ∧ wr.drew.cell? ⟨g, o + j * 20 + 19, none⟩ = some (.slice nd N nc) ∧ wr.drew.cell? ⟨g', o' + j * 20 + 19, none⟩ = some (.slice nd' N nc')) :=
        Lib.hid ⟨hra 0 _ (rowC_0 ..), hra' 0 _ (rowC_0 ..), hra 18 _ (rowC_18 _ _ _ _ _ ho.1), hra' 18 _ (rowC_18 _ _ _ _ _ ho.1), hra 19 _ (rowC_19 _ _ _ _ _ ho.1), hra' 19 _ (rowC_19 _ _ _ _ _ ho.1)⟩
      have HK3 := Lib.hid hk3
      have HK3' := Lib.hid hk3'
      have HO := Lib.hid ho
      have HN := Lib.hid hN
      clear hra hra' hk3 hk3' hsv hsv' hr hcg hcg' ho hN
      go_wp2_with fail
      refine wp_region_plan [] [(0, 0), (1, 0), (2, 0), (3, 0), (4, 1), (5, 0), (6, 0), (7, 0), (8, 0), (9, 1), (10, 0), (11, 0), (12, 0), (13, 0), (14, 0), (15, 0), (16, 1), (17, 0), (18, 0), (19, 0), (20, 0), (21, 1), (22, 0), (23, 0), (24, 0), (25, 0), (26, 0), (27, 0), (28, 0), (29, 1), (30, 0), (31, 0), (32, 0), (33, 0), (34, 1), (35, 0), (36, 0), (37, 0), (38, 0), (39, 0), (40, 0), (41, 0), (42, 1), (43, 0), (44, 0), (45, 0), (46, 0), (47, 0), (48, 1), (49, 0), (50, 0), (51, 0)] (fun w' : World => w'.rangeAt g (o + j * 20 + 1) (adrC r.v6 r.b) ∧ w'.rangeAt g' (o' + j * 20 + 1) (adrC r.v6 r.b) ∧ w'.cell? ⟨g, o + j * 20, none⟩ = some (.int .i64 r.vlan) ∧ w'.cell? ⟨g', o' + j * 20, none⟩ = some (.int .i64 r.vlan) ∧ w'.cell? ⟨g, o + j * 20 + 18, none⟩ = some (.int .i64 r.root) ∧ w'.cell? ⟨g', o' + j * 20 + 18, none⟩ = some (.int .i64 r.root) ∧ w'.cell? ⟨g, o + j * 20 + 19, none⟩ = some (.slice nd N nc) ∧ w'.cell? ⟨g', o' + j * 20 + 19, none⟩ = some (.slice nd' N nc')) (by kernel_rfl) (by kernel_rfl) (fun d _ _ _ _ h => by cases d <;> exact h) ?_
      repeat (first | (refine plan_skip rfl rfl ?_; simp only [List.getElem_toArray, List.getElem_cons_succ, List.getElem_cons_zero, Act.put, List.setIfInBounds_toArray, List.set_cons_zero, List.set_cons_succ]) | (refine plan_pass2 rfl rfl ?_; simp only [List.getElem_toArray, List.getElem_cons_succ, List.getElem_cons_zero, Act.put, List.setIfInBounds_toArray, List.set_cons_zero, List.set_cons_succ]) | (refine plan_pass3 rfl rfl ?_; simp only [List.getElem_toArray, List.getElem_cons_succ, List.getElem_cons_zero, Act.put, List.setIfInBounds_toArray, List.set_cons_zero, List.set_cons_succ]) | (refine plan_take (v := ?_) rfl rfl ?_ ?_; rotate_left; (focus (intro w0; go_simp; try with_reducible rfl)); simp only [List.getElem_toArray, List.getElem_cons_succ, List.getElem_cons_zero, Act.put, List.setIfInBounds_toArray, List.set_cons_zero, List.set_cons_succ]) | (refine plan_held (v := ?_) rfl rfl (⟨HA.out, HA'.out, HC.out⟩) ?_ ?_; rotate_left; (focus (intro w0 hSw; (try dsimp only at hSw); go_split_ands; go_simp; try with_reducible rfl)); simp only [List.getElem_toArray, List.getElem_cons_succ, List.getElem_cons_zero, Act.put, List.setIfInBounds_toArray, List.set_cons_zero, List.set_cons_succ])  | (refine plan_skip1 rfl rfl (⟨HA.out, HA'.out, HC.out⟩) ?_; simp only [List.getElem_toArray, List.getElem_cons_succ, List.getElem_cons_zero, Act.put, List.setIfInBounds_toArray, List.set_cons_zero, List.set_cons_succ]))
      (refine plan_held (v := .agg (adrC r.v6 r.b).toArray) rfl rfl (⟨HA.out, HA'.out, HC.out⟩) (fun w0 h0 => exec_load_mid _ _ rfl g (o + j * 20 + 1) rfl (adrC r.v6 r.b) _ w0 h0.1 Try.underlying36 rfl HS.out) ?_; try simp only [List.getElem_toArray, List.getElem_cons_succ, List.getElem_cons_zero, Act.put, List.setIfInBounds_toArray, List.set_cons_zero, List.set_cons_succ])
      repeat (first | (refine plan_skip rfl rfl ?_; simp only [List.getElem_toArray, List.getElem_cons_succ, List.getElem_cons_zero, Act.put, List.setIfInBounds_toArray, List.set_cons_zero, List.set_cons_succ]) | (refine plan_pass2 rfl rfl ?_; simp only [List.getElem_toArray, List.getElem_cons_succ, List.getElem_cons_zero, Act.put, List.setIfInBounds_toArray, List.set_cons_zero, List.set_cons_succ]) | (refine plan_pass3 rfl rfl ?_; simp only [List.getElem_toArray, List.getElem_cons_succ, List.getElem_cons_zero, Act.put, List.setIfInBounds_toArray, List.set_cons_zero, List.set_cons_succ]) | (refine plan_take (v := ?_) rfl rfl ?_ ?_; rotate_left; (focus (intro w0; go_simp; try with_reducible rfl)); simp only [List.getElem_toArray, List.getElem_cons_succ, List.getElem_cons_zero, Act.put, List.setIfInBounds_toArray, List.set_cons_zero, List.set_cons_succ]) | (refine plan_held (v := ?_) rfl rfl (⟨HA.out, HA'.out, HC.out⟩) ?_ ?_; rotate_left; (focus (intro w0 hSw; (try dsimp only at hSw); go_split_ands; go_simp; try with_reducible rfl)); simp only [List.getElem_toArray, List.getElem_cons_succ, List.getElem_cons_zero, Act.put, List.setIfInBounds_toArray, List.set_cons_zero, List.set_cons_succ])  | (refine plan_skip1 rfl rfl (⟨HA.out, HA'.out, HC.out⟩) ?_; simp only [List.getElem_toArray, List.getElem_cons_succ, List.getElem_cons_zero, Act.put, List.setIfInBounds_toArray, List.set_cons_zero, List.set_cons_succ]))
      (refine plan_held (v := .agg (adrC r.v6 r.b).toArray) rfl rfl (⟨HA.out, HA'.out, HC.out⟩) (fun w0 h0 => exec_load_mid _ _ rfl g' (o' + j * 20 + 1) rfl (adrC r.v6 r.b) _ w0 h0.2.1 Try.underlying36 rfl HS.out) ?_; try simp only [List.getElem_toArray, List.getElem_cons_succ, List.getElem_cons_zero, Act.put, List.setIfInBounds_toArray, List.set_cons_zero, List.set_cons_succ])
      refine plan_take (v := .bool false) rfl rfl (exec_ne_adr rfl r.v6 r.b HO.out.1 rfl rfl) ?_
      try simp only [List.getElem_toArray, List.getElem_cons_succ, List.getElem_cons_zero, Act.put, List.setIfInBounds_toArray, List.set_cons_zero, List.set_cons_succ]
      repeat (first | (refine plan_skip rfl rfl ?_; simp only [List.getElem_toArray, List.getElem_cons_succ, List.getElem_cons_zero, Act.put, List.setIfInBounds_toArray, List.set_cons_zero, List.set_cons_succ]) | (refine plan_pass2 rfl rfl ?_; simp only [List.getElem_toArray, List.getElem_cons_succ, List.getElem_cons_zero, Act.put, List.setIfInBounds_toArray, List.set_cons_zero, List.set_cons_succ]) | (refine plan_pass3 rfl rfl ?_; simp only [List.getElem_toArray, List.getElem_cons_succ, List.getElem_cons_zero, Act.put, List.setIfInBounds_toArray, List.set_cons_zero, List.set_cons_succ]) | (refine plan_take (v := ?_) rfl rfl ?_ ?_; rotate_left; (focus (intro w0; go_simp; try with_reducible rfl)); simp only [List.getElem_toArray, List.getElem_cons_succ, List.getElem_cons_zero, Act.put, List.setIfInBounds_toArray, List.set_cons_zero, List.set_cons_succ]) | (refine plan_held (v := ?_) rfl rfl (⟨HA.out, HA'.out, HC.out⟩) ?_ ?_; rotate_left; (focus (intro w0 hSw; (try dsimp only at hSw); go_split_ands; go_simp; try with_reducible rfl)); simp only [List.getElem_toArray, List.getElem_cons_succ, List.getElem_cons_zero, Act.put, List.setIfInBounds_toArray, List.set_cons_zero, List.set_cons_succ])  | (refine plan_skip1 rfl rfl (⟨HA.out, HA'.out, HC.out⟩) ?_; simp only [List.getElem_toArray, List.getElem_cons_succ, List.getElem_cons_zero, Act.put, List.setIfInBounds_toArray, List.set_cons_zero, List.set_cons_succ]))
      refine plan_nil ?_
      go_wp2_with fail
      go_loopw [6] (fun kv wr => ∃ k : Nat, k ≤ N ∧ kv = .int .i64 (k : Int) ∧ Mod (fun _ => False) w wr) (fun kv _ => N - (intOf kv).toNat)
      case atStart => exact ⟨0, Nat.zero_le _, rfl, HM.out.drew⟩
      case round =>
        obtain ⟨k, hk, rfl, hm⟩ := hrel
        have HM2 := Lib.hid hm
        have c19 : wr.cell? ⟨g, o + j * 20 + 19, none⟩ = some (.slice nd N nc) := hm.cell (fun f => f) HW.out.1
        have c19' : wr.cell? ⟨g', o' + j * 20 + 19, none⟩ = some (.slice nd' N nc') := hm.cell (fun f => f) HW.out.2
        clear hm
        by_cases hkN : k < N
        · obtain ⟨eg, eo, rfl, hx⟩ := HK3.out (by omega)
          obtain ⟨eg', eo', rfl, hx'⟩ := HK3'.out (by omega)
          obtain ⟨x, hxx⟩ : ∃ x, x = r.next.getD k 0 := ⟨_, rfl⟩
          have hS : wr.drew.cell? ⟨g, o + j * 20 + 19, none⟩ = some (.slice (some ⟨eg, eo, none⟩) N nc) ∧ wr.drew.cell? ⟨g', o' + j * 20 + 19, none⟩ = some (.slice (some ⟨eg', eo', none⟩) N nc') ∧ wr.drew.cell? ⟨eg, eo + k, none⟩ = some (.int .i64 x) ∧ wr.drew.cell? ⟨eg', eo' + k, none⟩ = some (.int .i64 x) := by
            rw [hxx]
            exact ⟨c19, c19', HM2.out.drew.cell (fun f => f) (hx k _ (ints_get _ _ (by have := HN.out; omega))), HM2.out.drew.cell (fun f => f) (hx' k _ (ints_get _ _ (by have := HN.out; omega)))⟩
          have HSS := Lib.hid hS
          clear hx hx' hxx hS
          go_wp2_with fail
          refine wp_region_plan [] [(0, 0), (1, 0), (2, 0), (3, 0), (4, 1), (5, 0), (6, 0), (7, 1), (8, 0), (9, 0), (10, 0), (11, 0), (12, 1), (13, 0), (14, 0), (15, 1), (16, 0)] (fun w' : World => w'.cell? ⟨g, o + j * 20 + 19, none⟩ = some (.slice (some ⟨eg, eo, none⟩) N nc) ∧ w'.cell? ⟨g', o' + j * 20 + 19, none⟩ = some (.slice (some ⟨eg', eo', none⟩) N nc') ∧ w'.cell? ⟨eg, eo + k, none⟩ = some (.int .i64 x) ∧ w'.cell? ⟨eg', eo' + k, none⟩ = some (.int .i64 x)) (by kernel_rfl) (by kernel_rfl) (fun d _ _ _ _ h => by cases d <;> exact h) ?_
          repeat (first | (refine plan_skip rfl rfl ?_; simp only [List.getElem_toArray, List.getElem_cons_succ, List.getElem_cons_zero, Act.put, List.setIfInBounds_toArray, List.set_cons_zero, List.set_cons_succ]) | (refine plan_pass2 rfl rfl ?_; simp only [List.getElem_toArray, List.getElem_cons_succ, List.getElem_cons_zero, Act.put, List.setIfInBounds_toArray, List.set_cons_zero, List.set_cons_succ]) | (refine plan_pass3 rfl rfl ?_; simp only [List.getElem_toArray, List.getElem_cons_succ, List.getElem_cons_zero, Act.put, List.setIfInBounds_toArray, List.set_cons_zero, List.set_cons_succ]) | (refine plan_take (v := ?_) rfl rfl ?_ ?_; rotate_left; (focus (intro w0; go_simp; try with_reducible rfl)); simp only [List.getElem_toArray, List.getElem_cons_succ, List.getElem_cons_zero, Act.put, List.setIfInBounds_toArray, List.set_cons_zero, List.set_cons_succ]) | (refine plan_held (v := ?_) rfl rfl (HSS.out) ?_ ?_; rotate_left; (focus (intro w0 hSw; (try dsimp only at hSw); go_split_ands; go_simp; try with_reducible rfl)); simp only [List.getElem_toArray, List.getElem_cons_succ, List.getElem_cons_zero, Act.put, List.setIfInBounds_toArray, List.set_cons_zero, List.set_cons_succ])  | (refine plan_skip1 rfl rfl (HSS.out) ?_; simp only [List.getElem_toArray, List.getElem_cons_succ, List.getElem_cons_zero, Act.put, List.setIfInBounds_toArray, List.set_cons_zero, List.set_cons_succ]))
          refine plan_nil ?_
          go_wp2
          go_roundw
          case rel => exact ⟨k + 1, by omega, by go_num, HM2.out.drew⟩
          case measure => simp [intOf]; omega
        · obtain rfl : k = N := by omega
          go_wp2
          go_roundw
          case rel => exact ⟨j + 1, by omega, by go_num, HM2.out⟩
          case measure => simp [intOf]; omega
    · obtain rfl : j = n := by omega
      go_wp2
      go_ret
      exact ⟨rfl, HM.out⟩
end Go.Proofs.Ytegjamjognpdkaa
