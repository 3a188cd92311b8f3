/- table.compare, table.goodRow: contracts. -/
import Derived.Test.YtegjamjognpdkaaGreatAdrW
namespace Go.Proofs.YtegjamjognpdkaaGreat
open Go.RowKit
set_option linter.unusedVariables false
set_option linter.unusedSimpArgs false
theorem exec_load_blk {P : Program} {ev : Operand → Value} {op : Oper} (ty : TypeId) (x : Operand) (ho : op.op = .load ty x) (g o : Nat) (hx : ev x = .pointer (some ⟨g, o, none⟩)) (t : TypeId) (cur cs : List Value) (d : TypeDesc) (w : World) (hg : Blk w g t cur) (hcs : (cur.drop o).take cs.length = cs)
    (hu : P.underlying ty = some d) (hd : d.isRow = true) (hi : (P.info? ty).map (·.size) = some cs.length) : (execOp ev op).run P w = .ok (.value (.agg cs.toArray)) w :=
  exec_load_mid ty x ho g o hx cs d w (hcs ▸ hg.range o cs.length) hu hd hi
theorem rowC_0 (vlan : Int) (v6 : Bool) (b : List Int) (root : Int) (sv : Value) : (rowC vlan v6 b root sv)[0]? = some (.int .i64 vlan) := rfl
theorem rowC_adrs' (r : TRow) (sv : Value) (hb : r.b.length = 16) : ((r.c sv).drop 1).take (adrC r.v6 r.b).length = adrC r.v6 r.b := by
  rw [adrC_len, hb]
  exact rowC_adrs _ _ _ _ _ hb
set_option maxRecDepth 100000 in
set_option maxHeartbeats 1000000 in
theorem compare_any (r r' : TRow) (sv sv' : Value) (hb : adrOk r.b) (hb' : adrOk r'.b) (w : World) :
    Calls Tryz.prog 39 #[.agg (r.c sv).toArray, .agg (r'.c sv').toArray] w fun e w' => e = .returned (.int .i64 (cmpT r r')) ∧ Mod (fun _ => False) w w' := by
  have hA := Blk.alloc (Blk.new w 28 (r.c sv)) (.cells (r'.c sv').toArray 28 (0, 0))
  have hB := Blk.new (w.alloc (.cells (r.c sv).toArray 28 (0, 0))) 28 (r'.c sv')
  have hm : Mod (fun _ => False) w ((w.alloc (.cells (r.c sv).toArray 28 (0, 0))).alloc (.cells (r'.c sv').toArray 28 (0, 0))) := ((Mod.refl _ _).alloc _).alloc _
  rw [show (w.alloc (.cells (r.c sv).toArray 28 (0, 0))).heap.size = w.heap.size + 1 by simp] at hB
  go_enter Tryz.func39, Tryz.ntmps39
  go_wp2_with fail
  obtain ⟨W0, hW0⟩ : ∃ W0, W0 = (w.alloc (.cells (r.c sv).toArray 28 (0, 0))).alloc (.cells (r'.c sv').toArray 28 (0, 0)) := ⟨_, rfl⟩
  obtain ⟨pb, hpb⟩ : ∃ pb, pb = w.heap.size := ⟨_, rfl⟩
  obtain ⟨pc, hpc⟩ : ∃ pc, pc = w.heap.size + 1 := ⟨_, rfl⟩
  rw [← hW0, ← hpb] at hA
  rw [← hW0, ← hpc] at hB
  rw [← hW0] at hm
  try rw [← hW0]
  try rw [← hpc]
  try rw [← hpb]
  have HA := Lib.hid hA.drew
  have HB := Lib.hid hB.drew
  have HM := Lib.hid hm.drew
  have HO := Lib.hid hb
  have HO' := Lib.hid hb'
  have HS : Hid ((Tryz.prog.info? 25).map (·.size) = some (adrC r.v6 r.b).length) := Lib.hid (by rw [adrC_len, hb.1]; exact adrSz)
  have HS' : Hid ((Tryz.prog.info? 25).map (·.size) = some (adrC r'.v6 r'.b).length) := Lib.hid (by rw [adrC_len, hb'.1]; exact adrSz)
  have HK : Hid (∀ W' : World, Blk W' pb 28 (r.c sv) → Blk W' pc 28 (r'.c sv') → Blk W' pb 28 (r.c sv) ∧ Blk W' pc 28 (r'.c sv') ∧ W'.cell? ⟨pb, 0, none⟩ = some (.int .i64 r.vlan) ∧ W'.cell? ⟨pc, 0, none⟩ = some (.int .i64 r'.vlan) ∧ W'.cell? ⟨pb, 18, none⟩ = some (.int .i64 r.root) ∧ W'.cell? ⟨pc, 18, none⟩ = some (.int .i64 r'.root)) :=
    Lib.hid fun W' h1 h2 => ⟨h1, h2, h1.cell (rowC_0 ..), h2.cell (rowC_0 ..), h1.cell (rowC_18 _ _ _ _ _ hb.1), h2.cell (rowC_18 _ _ _ _ _ hb'.1)⟩
  clear hA hB hm hW0 hpb hpc hb hb'
  refine wp_region_plan [] [(0, 0), (1, 1), (2, 0), (3, 1), (5, 0), (6, 1), (7, 0), (8, 1), (10, 0), (11, 1), (12, 0), (13, 1), (4, 2), (9, 2), (14, 2), (15, 2), (16, 2), (17, 0)] (fun w' : World => Blk w' pb 28 (r.c sv) ∧ Blk w' pc 28 (r'.c sv') ∧ w'.cell? ⟨pb, 0, none⟩ = some (.int .i64 r.vlan) ∧ w'.cell? ⟨pc, 0, none⟩ = some (.int .i64 r'.vlan) ∧ w'.cell? ⟨pb, 18, none⟩ = some (.int .i64 r.root) ∧ w'.cell? ⟨pc, 18, none⟩ = some (.int .i64 r'.root)) (by kernel_rfl) (by kernel_rfl) (fun d _ _ _ _ h => by cases d <;> exact h) ?_
  repeat (first | (refine plan_skip rfl rfl ?_; simp only [List.getElem_toArray, List.getElem_cons_succ, List.getElem_cons_zero, Act.put, List.setIfInBounds_toArray, List.set_cons_zero, List.set_cons_succ]) | (refine plan_pass2 rfl rfl ?_; simp only [List.getElem_toArray, List.getElem_cons_succ, List.getElem_cons_zero, Act.put, List.setIfInBounds_toArray, List.set_cons_zero, List.set_cons_succ]) | (refine plan_pass3 rfl rfl ?_; simp only [List.getElem_toArray, List.getElem_cons_succ, List.getElem_cons_zero, Act.put, List.setIfInBounds_toArray, List.set_cons_zero, List.set_cons_succ]) | (refine plan_take (v := ?_) rfl rfl ?_ ?_; rotate_left; (focus (intro w0; go_simp; try with_reducible rfl)); simp only [List.getElem_toArray, List.getElem_cons_succ, List.getElem_cons_zero, Act.put, List.setIfInBounds_toArray, List.set_cons_zero, List.set_cons_succ]) | (refine plan_held (v := ?_) rfl rfl (HK.out _ HA.out HB.out) ?_ ?_; rotate_left; (focus (intro w0 hSw; (try dsimp only at hSw); go_split_ands; go_simp; try with_reducible rfl)); simp only [List.getElem_toArray, List.getElem_cons_succ, List.getElem_cons_zero, Act.put, List.setIfInBounds_toArray, List.set_cons_zero, List.set_cons_succ])  | (refine plan_skip1 rfl rfl (HK.out _ HA.out HB.out) ?_; simp only [List.getElem_toArray, List.getElem_cons_succ, List.getElem_cons_zero, Act.put, List.setIfInBounds_toArray, List.set_cons_zero, List.set_cons_succ]))
  (refine plan_held (v := .agg (adrC r.v6 r.b).toArray) rfl rfl (HK.out _ HA.out HB.out) (fun w0 h0 => exec_load_blk _ _ rfl pb 1 rfl 28 (r.c sv) (adrC r.v6 r.b) _ w0 h0.1 (rowC_adrs' r sv HO.out.1) Tryz.underlying25 rfl HS.out) ?_; try simp only [List.getElem_toArray, List.getElem_cons_succ, List.getElem_cons_zero, Act.put, List.setIfInBounds_toArray, List.set_cons_zero, List.set_cons_succ])
  repeat (first | (refine plan_skip rfl rfl ?_; simp only [List.getElem_toArray, List.getElem_cons_succ, List.getElem_cons_zero, Act.put, List.setIfInBounds_toArray, List.set_cons_zero, List.set_cons_succ]) | (refine plan_pass2 rfl rfl ?_; simp only [List.getElem_toArray, List.getElem_cons_succ, List.getElem_cons_zero, Act.put, List.setIfInBounds_toArray, List.set_cons_zero, List.set_cons_succ]) | (refine plan_pass3 rfl rfl ?_; simp only [List.getElem_toArray, List.getElem_cons_succ, List.getElem_cons_zero, Act.put, List.setIfInBounds_toArray, List.set_cons_zero, List.set_cons_succ]) | (refine plan_take (v := ?_) rfl rfl ?_ ?_; rotate_left; (focus (intro w0; go_simp; try with_reducible rfl)); simp only [List.getElem_toArray, List.getElem_cons_succ, List.getElem_cons_zero, Act.put, List.setIfInBounds_toArray, List.set_cons_zero, List.set_cons_succ]) | (refine plan_held (v := ?_) rfl rfl (HK.out _ HA.out HB.out) ?_ ?_; rotate_left; (focus (intro w0 hSw; (try dsimp only at hSw); go_split_ands; go_simp; try with_reducible rfl)); simp only [List.getElem_toArray, List.getElem_cons_succ, List.getElem_cons_zero, Act.put, List.setIfInBounds_toArray, List.set_cons_zero, List.set_cons_succ])  | (refine plan_skip1 rfl rfl (HK.out _ HA.out HB.out) ?_; simp only [List.getElem_toArray, List.getElem_cons_succ, List.getElem_cons_zero, Act.put, List.setIfInBounds_toArray, List.set_cons_zero, List.set_cons_succ]))
  (refine plan_held (v := .agg (adrC r'.v6 r'.b).toArray) rfl rfl (HK.out _ HA.out HB.out) (fun w0 h0 => exec_load_blk _ _ rfl pc 1 rfl 28 (r'.c sv') (adrC r'.v6 r'.b) _ w0 h0.2.1 (rowC_adrs' r' sv' HO'.out.1) Tryz.underlying25 rfl HS'.out) ?_; try simp only [List.getElem_toArray, List.getElem_cons_succ, List.getElem_cons_zero, Act.put, List.setIfInBounds_toArray, List.set_cons_zero, List.set_cons_succ])
  repeat (first | (refine plan_skip rfl rfl ?_; simp only [List.getElem_toArray, List.getElem_cons_succ, List.getElem_cons_zero, Act.put, List.setIfInBounds_toArray, List.set_cons_zero, List.set_cons_succ]) | (refine plan_pass2 rfl rfl ?_; simp only [List.getElem_toArray, List.getElem_cons_succ, List.getElem_cons_zero, Act.put, List.setIfInBounds_toArray, List.set_cons_zero, List.set_cons_succ]) | (refine plan_pass3 rfl rfl ?_; simp only [List.getElem_toArray, List.getElem_cons_succ, List.getElem_cons_zero, Act.put, List.setIfInBounds_toArray, List.set_cons_zero, List.set_cons_succ]) | (refine plan_take (v := ?_) rfl rfl ?_ ?_; rotate_left; (focus (intro w0; go_simp; try with_reducible rfl)); simp only [List.getElem_toArray, List.getElem_cons_succ, List.getElem_cons_zero, Act.put, List.setIfInBounds_toArray, List.set_cons_zero, List.set_cons_succ]) | (refine plan_held (v := ?_) rfl rfl (HK.out _ HA.out HB.out) ?_ ?_; rotate_left; (focus (intro w0 hSw; (try dsimp only at hSw); go_split_ands; go_simp; try with_reducible rfl)); simp only [List.getElem_toArray, List.getElem_cons_succ, List.getElem_cons_zero, Act.put, List.setIfInBounds_toArray, List.set_cons_zero, List.set_cons_succ])  | (refine plan_skip1 rfl rfl (HK.out _ HA.out HB.out) ?_; simp only [List.getElem_toArray, List.getElem_cons_succ, List.getElem_cons_zero, Act.put, List.setIfInBounds_toArray, List.set_cons_zero, List.set_cons_succ]))
  (refine plan_do rfl rfl fun K hK => ?_; try simp only [List.getElem_toArray, List.getElem_cons_succ, List.getElem_cons_zero])
  go_simp
  refine (cmpI_any _ _ _).mono ?_; rintro e W1 ⟨rfl, rfl⟩
  refine hK _ _ (HK.out _ HA.out HB.out) ?_
  clear hK K
  try simp only [List.getElem_toArray, List.getElem_cons_succ, List.getElem_cons_zero, Act.put, List.setIfInBounds_toArray, List.set_cons_zero, List.set_cons_succ]
  (refine plan_do rfl rfl fun K hK => ?_; try simp only [List.getElem_toArray, List.getElem_cons_succ, List.getElem_cons_zero])
  go_simp
  refine (Cmp_any _ _ _ _ HO.out HO'.out _).mono ?_; rintro e W1 ⟨rfl, hm⟩
  replace HA := Lib.hid (HA.out.keep hm fun f => f)
  replace HB := Lib.hid (HB.out.keep hm fun f => f)
  replace HM := Lib.hid (HM.out.trans hm fun _ f => f.elim)
  refine hK _ _ (HK.out _ HA.out HB.out) ?_
  clear hK K hm
  try simp only [List.getElem_toArray, List.getElem_cons_succ, List.getElem_cons_zero, Act.put, List.setIfInBounds_toArray, List.set_cons_zero, List.set_cons_succ]
  (refine plan_do rfl rfl fun K hK => ?_; try simp only [List.getElem_toArray, List.getElem_cons_succ, List.getElem_cons_zero])
  go_simp
  refine (cmpI_any _ _ _).mono ?_; rintro e W2 ⟨rfl, rfl⟩
  refine hK _ _ (HK.out _ HA.out HB.out) ?_
  clear hK K
  try simp only [List.getElem_toArray, List.getElem_cons_succ, List.getElem_cons_zero, Act.put, List.setIfInBounds_toArray, List.set_cons_zero, List.set_cons_succ]
  have HN := Lib.hid (Blk.new W1 3 [.int .i64 (cmpI r.vlan r'.vlan), .int .i64 (cmpA r.v6 r.b r'.v6 r'.b), .int .i64 (cmpI r.root r'.root)])
  (refine plan_do rfl rfl fun K hK => ?_; (try simp only [List.getElem_toArray, List.getElem_cons_succ, List.getElem_cons_zero]); go_simp; refine hK _ _ (HK.out _ (HA.out.alloc _) (HB.out.alloc _)) ?_; clear hK K; try simp only [List.getElem_toArray, List.getElem_cons_succ, List.getElem_cons_zero, Act.put, List.setIfInBounds_toArray, List.set_cons_zero, List.set_cons_succ])
  (refine plan_do rfl rfl fun K hK => ?_; try simp only [List.getElem_toArray, List.getElem_cons_succ, List.getElem_cons_zero])
  go_simp
  refine (or3_any _ _ _ _ _ (HN.out.cell rfl) (HN.out.cell rfl) (HN.out.cell rfl)).mono ?_; rintro e W2 ⟨rfl, rfl⟩
  refine hK _ _ (HK.out _ (HA.out.alloc _) (HB.out.alloc _)) ?_
  clear hK K
  try simp only [List.getElem_toArray, List.getElem_cons_succ, List.getElem_cons_zero, Act.put, List.setIfInBounds_toArray, List.set_cons_zero, List.set_cons_succ]
  repeat (first | (refine plan_skip rfl rfl ?_; simp only [List.getElem_toArray, List.getElem_cons_succ, List.getElem_cons_zero, Act.put, List.setIfInBounds_toArray, List.set_cons_zero, List.set_cons_succ]) | (refine plan_pass2 rfl rfl ?_; simp only [List.getElem_toArray, List.getElem_cons_succ, List.getElem_cons_zero, Act.put, List.setIfInBounds_toArray, List.set_cons_zero, List.set_cons_succ]) | (refine plan_pass3 rfl rfl ?_; simp only [List.getElem_toArray, List.getElem_cons_succ, List.getElem_cons_zero, Act.put, List.setIfInBounds_toArray, List.set_cons_zero, List.set_cons_succ]) | (refine plan_take (v := ?_) rfl rfl ?_ ?_; rotate_left; (focus (intro w0; go_simp; try with_reducible rfl)); simp only [List.getElem_toArray, List.getElem_cons_succ, List.getElem_cons_zero, Act.put, List.setIfInBounds_toArray, List.set_cons_zero, List.set_cons_succ]) | (refine plan_held (v := ?_) rfl rfl (HK.out _ (HA.out.alloc _) (HB.out.alloc _)) ?_ ?_; rotate_left; (focus (intro w0 hSw; (try dsimp only at hSw); go_split_ands; go_simp; try with_reducible rfl)); simp only [List.getElem_toArray, List.getElem_cons_succ, List.getElem_cons_zero, Act.put, List.setIfInBounds_toArray, List.set_cons_zero, List.set_cons_succ])  | (refine plan_skip1 rfl rfl (HK.out _ (HA.out.alloc _) (HB.out.alloc _)) ?_; simp only [List.getElem_toArray, List.getElem_cons_succ, List.getElem_cons_zero, Act.put, List.setIfInBounds_toArray, List.set_cons_zero, List.set_cons_succ]))
  refine plan_nil ?_
  go_wp2
  go_ret
  exact ⟨rfl, HM.out.alloc _⟩
theorem In_any (n lo hi : Int) (w : World) : Calls Tryz.prog 52 #[.int .i64 n, .int .i64 lo, .int .i64 hi] w fun e w' => e = .returned (.bool (decide (lo ≤ n ∧ n ≤ hi))) ∧ w = w' := by
  by_cases h1 : lo ≤ n
  · by_cases h2 : n ≤ hi
    · rw [decide_eq_true (show lo ≤ n ∧ n ≤ hi from ⟨h1, h2⟩)]
      go_enter Tryz.func52, Tryz.ntmps52
      go_wp2
      go_ret
      exact ⟨rfl, rfl⟩
    · rw [decide_eq_false (fun h : lo ≤ n ∧ n ≤ hi => h2 h.2)]
      go_enter Tryz.func52, Tryz.ntmps52
      go_wp2
      go_ret
      exact ⟨rfl, rfl⟩
  · rw [decide_eq_false (fun h : lo ≤ n ∧ n ≤ hi => h1 h.1)]
    go_enter Tryz.func52, Tryz.ntmps52
    go_wp2
    go_ret
    exact ⟨rfl, rfl⟩
theorem ints_get (xs : List Int) (j : Nat) (h : j < xs.length) : (ints xs)[j]? = some (.int .i64 (xs.getD j 0)) := by
  unfold ints
  rw [List.getElem?_map, List.getElem?_eq_getElem h, List.getD_eq_getElem?_getD, List.getElem?_eq_getElem h]
  rfl
theorem nextOk_yes (xs : List Int) (j : Nat) (h : 0 ≤ xs.getD j 0 ∧ xs.getD j 0 ≤ 65535) (h' : j = 0 ∨ xs.getD (j - 1) 0 < xs.getD j 0) : nextOk xs j = true := decide_eq_true ⟨h.1, h.2, fun h0 => h'.resolve_left (by omega)⟩
theorem nextOk_no (xs : List Int) (j : Nat) (h : ¬ (0 ≤ xs.getD j 0 ∧ xs.getD j 0 ≤ 65535) ∨ (0 < j ∧ ¬ xs.getD (j - 1) 0 < xs.getD j 0)) : nextOk xs j = false := decide_eq_false fun ⟨h1, h2, h3⟩ => h.elim (fun h => h ⟨h1, h2⟩) fun h => h.2 (h3 h.1)
theorem oneT_no (r : TRow) (j : Nat) (hj : j < r.next.length) (h : nextOk r.next j = false) : oneT r = false := by
  unfold oneT
  rw [allTo_false hj h]
  rfl
theorem oneT_all (r : TRow) (h : ∀ j, j < r.next.length → nextOk r.next j = true) : oneT r = (adrGood r.v6 r.b && (adrZero r.b || adrGroup r.v6 r.b) && decide (0 ≤ r.vlan ∧ r.vlan ≤ 4094) && decide (0 ≤ r.root ∧ r.root ≤ 65535) && decide (1 ≤ r.next.length ∧ r.next.length ≤ 255)) := by
  unfold oneT
  rw [allTo_true h]
  rfl
set_option maxRecDepth 100000 in
set_option maxHeartbeats 2000000 in
theorem goodRow_any (r : TRow) (sv : Value) (hb : adrOk r.b) (w : World) (hn : Reads w sv r.next.length (ints r.next)) :
    Calls Tryz.prog 38 #[.agg (r.c sv).toArray] w fun e w' => e = .returned (.bool (oneT r)) ∧ Mod (fun _ => False) w w' := by
  have hA := Blk.new w 28 (r.c sv)
  have hm : Mod (fun _ => False) w (w.alloc (.cells (r.c sv).toArray 28 (0, 0))) := (Mod.refl _ _).alloc _
  have hr := hn.keep0 hm
  obtain ⟨ad, cp, rfl, hnc, hcm, hg⟩ := hr
  unfold maxLen at hcm
  obtain ⟨n, hnl⟩ : ∃ n, n = r.next.length := ⟨_, rfl⟩
  have HL := Lib.hid hnl
  rw [← hnl] at hnc hg hA hm ⊢
  have HS : Hid ((Tryz.prog.info? 25).map (·.size) = some (adrC r.v6 r.b).length) := Lib.hid (by rw [adrC_len, hb.1]; exact adrSz)
  have HO := Lib.hid hb
  obtain ⟨C, hC⟩ : ∃ C, C = r.c (.slice ad n cp) := ⟨_, rfl⟩
  have h0 : C[0]? = some (.int .i64 r.vlan) := by rw [hC]; exact rowC_0 ..
  have h18 : C[18]? = some (.int .i64 r.root) := by rw [hC]; exact rowC_18 _ _ _ _ _ hb.1
  have h19 : C[19]? = some (.slice ad n cp) := by rw [hC]; exact rowC_19 _ _ _ _ _ hb.1
  have hcs : (C.drop 1).take (adrC r.v6 r.b).length = adrC r.v6 r.b := by rw [hC]; exact rowC_adrs' r _ hb.1
  rw [← hC] at hA hm hg ⊢
  have HC0 := Lib.hid h0
  have HC18 := Lib.hid h18
  have HC19 := Lib.hid h19
  have HCS := Lib.hid hcs
  clear h0 h18 hcs hC hn hnl hb
  go_enter Tryz.func38, Tryz.ntmps38
  go_wp2_with fail
  obtain ⟨W0, hW0⟩ : ∃ W0, W0 = w.alloc (.cells C.toArray 28 (0, 0)) := ⟨_, rfl⟩
  obtain ⟨pb, hpb⟩ : ∃ pb, pb = w.heap.size := ⟨_, rfl⟩
  rw [← hW0] at hA hm hg
  rw [← hpb] at hA
  try rw [← hW0]
  try rw [← hpb]
  have HA := Lib.hid hA
  have HM := Lib.hid hm
  have HG := Lib.hid hg
  have c19 : W0.cell? ⟨pb, 19, none⟩ = some (.slice ad n cp) := hA.cell HC19.out
  clear hA hm hg hW0 hpb h19
  go_loop [9] (fun i => ∃ j : Nat, j ≤ n ∧ i = .int .i64 (j : Int) ∧ ∀ t, t < j → nextOk r.next t = true) (fun i => n - (intOf i).toNat)
  case atStart => exact ⟨0, Nat.zero_le _, rfl, fun t ht => by omega⟩
  case round =>
    obtain ⟨j, hj, rfl, hall⟩ := hrel
    have HALL := Lib.hid hall
    clear hall
    by_cases hlt : j < n
    · obtain ⟨g, o, rfl, hcg⟩ := HG.out (by omega)
      obtain ⟨x, hx⟩ : ∃ x, x = r.next.getD j 0 := ⟨_, rfl⟩
      have cj : W0.cell? ⟨g, o + j, none⟩ = some (.int .i64 x) := by rw [hx]; exact hcg j _ (ints_get _ _ (by have := HL.out; omega))
      by_cases hin : 0 ≤ x ∧ x ≤ 65535
      · by_cases h0 : j = 0
        · have HN : Hid (nextOk r.next j = true) := Lib.hid (nextOk_yes _ _ (hx ▸ hin) (.inl h0))
          subst h0
          simp only [Nat.add_zero] at cj
          clear hcg hx
          go_wp2_with fail
          refine (In_any _ _ _ _).mono ?_; rintro e w1 ⟨rfl, rfl⟩
          rw [decide_eq_true hin]
          go_wp2
          go_round
          case rel => exact ⟨1, by omega, by go_num, fun t ht => by rw [show t = 0 by omega]; exact HN.out⟩
          case measure => simp [intOf]; omega
        · obtain ⟨k, rfl⟩ : ∃ k, j = k + 1 := ⟨j - 1, by omega⟩
          obtain ⟨y, hy⟩ : ∃ y, y = r.next.getD k 0 := ⟨_, rfl⟩
          have ck : W0.cell? ⟨g, o + k, none⟩ = some (.int .i64 y) := by rw [hy]; exact hcg k _ (ints_get _ _ (by have := HL.out; omega))
          have ek : IntKind.i64.wrap (((k + 1 : Nat) : Int) - 1) = (k : Int) := by rw [show ((k + 1 : Nat) : Int) - 1 = (k : Int) by omega]; exact IntWalk.i64_in _ (by omega)
          have ek2 : IntKind.i64.wrap (k : Int) = (k : Int) := IntWalk.i64_in _ (by omega)
          have hk0 : 0 < ((k + 1 : Nat) : Int) := by omega
          have hkn : k < n := by omega
          by_cases hyx : y < x
          · have HN : Hid (nextOk r.next (k + 1) = true) := Lib.hid (nextOk_yes _ _ (hx ▸ hin) (.inr (by rw [Nat.add_sub_cancel, ← hx, ← hy]; exact hyx)))
            clear hcg hx hy h0
            go_wp2_with fail
            refine (In_any _ _ _ _).mono ?_; rintro e w1 ⟨rfl, rfl⟩
            rw [decide_eq_true hin]
            go_wp2
            go_round
            case rel => exact ⟨k + 2, by omega, by go_num, fun t ht => by rcases (show t < k + 1 ∨ t = k + 1 by omega) with h | rfl; exact HALL.out t h; exact HN.out⟩
            case measure => simp [intOf]; omega
          · have HN : Hid (oneT r = false) := Lib.hid (oneT_no r (k + 1) (by have := HL.out; omega) (nextOk_no _ _ (.inr ⟨by omega, by rw [Nat.add_sub_cancel, ← hx, ← hy]; exact hyx⟩)))
            have hxy : x ≤ y := by omega
            clear hcg hx hy h0
            go_wp2_with fail
            refine (In_any _ _ _ _).mono ?_; rintro e w1 ⟨rfl, rfl⟩
            rw [decide_eq_true hin]
            go_wp2
            go_ret
            exact ⟨by rw [HN.out]; rfl, HM.out⟩
      · have HN : Hid (oneT r = false) := Lib.hid (oneT_no r j (by have := HL.out; omega) (nextOk_no _ _ (.inl (hx ▸ hin))))
        clear hcg hx
        go_wp2_with fail
        refine (In_any _ _ _ _).mono ?_; rintro e w1 ⟨rfl, rfl⟩
        rw [decide_eq_false hin]
        go_wp2
        go_ret
        exact ⟨by rw [HN.out]; rfl, HM.out⟩
    · obtain rfl : j = n := by omega
      have HK : Hid (oneT r = (adrGood r.v6 r.b && (adrZero r.b || adrGroup r.v6 r.b) && decide (0 ≤ r.vlan ∧ r.vlan ≤ 4094) && decide (0 ≤ r.root ∧ r.root ≤ 65535) && decide (1 ≤ (j : Int) ∧ (j : Int) ≤ 255))) := Lib.hid (by
        rw [oneT_all r fun t ht => HALL.out t (by have := HL.out; omega), ← HL.out]
        congr 1
        by_cases h : 1 ≤ j ∧ j ≤ 255
        · rw [decide_eq_true h, decide_eq_true (by omega)]
        · rw [decide_eq_false h, decide_eq_false (by omega)])
      clear HALL hj HG hlt
      obtain ⟨G, hG⟩ : ∃ G, G = adrGood r.v6 r.b := ⟨_, rfl⟩
      obtain ⟨Z, hZ⟩ : ∃ Z, Z = adrZero r.b := ⟨_, rfl⟩
      obtain ⟨R, hR⟩ : ∃ R, R = adrGroup r.v6 r.b := ⟨_, rfl⟩
      have HHG := Lib.hid hG
      have HHZ := Lib.hid hZ
      have HHR := Lib.hid hR
      rw [← hG, ← hZ, ← hR] at HK
      clear hG hZ hR
      go_wp2_with (refine wpList_load_blk rfl _ _ rfl pb 1 rfl 28 C (adrC r.v6 r.b) _ HA.out HCS.out Tryz.underlying25 rfl HS.out ?_)
      refine (addrGood_any _ _ HO.out.1 _).mono ?_; rintro e w1 ⟨rfl, hm⟩
      rw [← HHG.out]
      have HA1 := Lib.hid (HA.out.keep hm fun f => f)
      have HM1 := Lib.hid (HM.out.trans hm fun _ f => f.elim)
      clear hm HA HM c19
      cases G with
      | false =>
        go_wp2
        go_ret
        exact ⟨by rw [HK.out]; rfl, HM1.out⟩
      | true =>
        go_wp2_with (refine wpList_load_blk rfl _ _ rfl pb 1 rfl 28 C (adrC r.v6 r.b) _ HA1.out HCS.out Tryz.underlying25 rfl HS.out ?_)
        refine (addrZero_any _ _ HO.out.1 _).mono ?_; rintro e w2 ⟨rfl, hm⟩
        rw [← HHZ.out]
        have HA2 := Lib.hid (HA1.out.keep hm fun f => f)
        have HM2 := Lib.hid (HM1.out.trans hm fun _ f => f.elim)
        clear hm HA1 HM1
        cases Z with
        | true =>
          have c0 : w2.cell? ⟨pb, 0, none⟩ = some (.int .i64 r.vlan) := HA2.out.cell HC0.out
          have c18 : w2.cell? ⟨pb, 18, none⟩ = some (.int .i64 r.root) := HA2.out.cell HC18.out
          have c19 : w2.cell? ⟨pb, 19, none⟩ = some (.slice ad j cp) := HA2.out.cell HC19.out
          go_wp2_with fail
          refine (In_any _ _ _ _).mono ?_; rintro e wa ⟨rfl, rfl⟩
          by_cases hv : 0 ≤ r.vlan ∧ r.vlan ≤ 4094
          · have HV := Lib.hid (decide_eq_true hv)
            rw [HV.out]
            clear hv
            go_wp2_with fail
            refine (In_any _ _ _ _).mono ?_; rintro e wa ⟨rfl, rfl⟩
            by_cases hr : 0 ≤ r.root ∧ r.root ≤ 65535
            · have HRT := Lib.hid (decide_eq_true hr)
              rw [HRT.out]
              clear hr
              go_wp2_with fail
              refine (In_any _ _ _ _).mono ?_; rintro e wa ⟨rfl, rfl⟩
              by_cases hl : 1 ≤ (j : Int) ∧ (j : Int) ≤ 255
              · have HLL := Lib.hid (decide_eq_true hl)
                rw [HLL.out]
                clear hl
                go_wp2
                go_ret
                exact ⟨by rw [HK.out, HV.out, HRT.out, HLL.out]; rfl, HM2.out⟩
              · have HLL := Lib.hid (decide_eq_false hl)
                rw [HLL.out]
                clear hl
                go_wp2
                go_ret
                exact ⟨by rw [HK.out, HV.out, HRT.out, HLL.out]; rfl, HM2.out⟩
            · have HRT := Lib.hid (decide_eq_false hr)
              rw [HRT.out]
              clear hr
              go_wp2
              go_ret
              exact ⟨by rw [HK.out, HV.out, HRT.out]; rfl, HM2.out⟩
          · have HV := Lib.hid (decide_eq_false hv)
            rw [HV.out]
            clear hv
            go_wp2
            go_ret
            exact ⟨by rw [HK.out, HV.out]; rfl, HM2.out⟩
        | false =>
          go_wp2_with (refine wpList_load_blk rfl _ _ rfl pb 1 rfl 28 C (adrC r.v6 r.b) _ HA2.out HCS.out Tryz.underlying25 rfl HS.out ?_)
          refine (addrGroup_any _ _ HO.out.1 _).mono ?_; rintro e w3 ⟨rfl, hm⟩
          rw [← HHR.out]
          have HA3 := Lib.hid (HA2.out.keep hm fun f => f)
          have HM3 := Lib.hid (HM2.out.trans hm fun _ f => f.elim)
          clear hm HA2 HM2
          cases R with
          | false =>
            go_wp2
            go_ret
            exact ⟨by rw [HK.out]; rfl, HM3.out⟩
          | true =>
            have c0 : w3.cell? ⟨pb, 0, none⟩ = some (.int .i64 r.vlan) := HA3.out.cell HC0.out
            have c18 : w3.cell? ⟨pb, 18, none⟩ = some (.int .i64 r.root) := HA3.out.cell HC18.out
            have c19 : w3.cell? ⟨pb, 19, none⟩ = some (.slice ad j cp) := HA3.out.cell HC19.out
            go_wp2_with fail
            refine (In_any _ _ _ _).mono ?_; rintro e wa ⟨rfl, rfl⟩
            by_cases hv : 0 ≤ r.vlan ∧ r.vlan ≤ 4094
            · have HV := Lib.hid (decide_eq_true hv)
              rw [HV.out]
              clear hv
              go_wp2_with fail
              refine (In_any _ _ _ _).mono ?_; rintro e wa ⟨rfl, rfl⟩
              by_cases hr : 0 ≤ r.root ∧ r.root ≤ 65535
              · have HRT := Lib.hid (decide_eq_true hr)
                rw [HRT.out]
                clear hr
                go_wp2_with fail
                refine (In_any _ _ _ _).mono ?_; rintro e wa ⟨rfl, rfl⟩
                by_cases hl : 1 ≤ (j : Int) ∧ (j : Int) ≤ 255
                · have HLL := Lib.hid (decide_eq_true hl)
                  rw [HLL.out]
                  clear hl
                  go_wp2
                  go_ret
                  exact ⟨by rw [HK.out, HV.out, HRT.out, HLL.out]; rfl, HM3.out⟩
                · have HLL := Lib.hid (decide_eq_false hl)
                  rw [HLL.out]
                  clear hl
                  go_wp2
                  go_ret
                  exact ⟨by rw [HK.out, HV.out, HRT.out, HLL.out]; rfl, HM3.out⟩
              · have HRT := Lib.hid (decide_eq_false hr)
                rw [HRT.out]
                clear hr
                go_wp2
                go_ret
                exact ⟨by rw [HK.out, HV.out, HRT.out]; rfl, HM3.out⟩
            · have HV := Lib.hid (decide_eq_false hv)
              rw [HV.out]
              clear hv
              go_wp2
              go_ret
              exact ⟨by rw [HK.out, HV.out]; rfl, HM3.out⟩
end Go.Proofs.YtegjamjognpdkaaGreat
