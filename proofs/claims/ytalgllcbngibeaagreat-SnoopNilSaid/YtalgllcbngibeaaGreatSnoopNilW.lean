/- law25.SnoopNil: the walk. -/
import Derived.Test.YtalgllcbngibeaaGreatNilD
import Derived.Test.YtalgllcbngibeaaGreatLives25
import Derived.Handy
namespace Go.Proofs.YtalgllcbngibeaaGreat
open Go.RowKit
set_option linter.unusedVariables false
set_option linter.unusedSimpArgs false
set_option maxRecDepth 100000 in
set_option maxHeartbeats 8000000 in
theorem SnoopNilW_walk (now : Int) (n : Int) (x0 x1 x2 x3 x4 x5 x6 x7 x8 x9 x10 x11 x12 x13 x14 x15 x16 x17 x18 x19 x20 x21 x22 x23 x24 x25 : Value) (w : World) (h24 : AddrsOk w x24) (h25 : RecsOk w x25) (hx : ∀ u ∈ [x0, x1, x2, x3, x4, x5, x6, x7, x8, x9, x10, x11, x12, x13, x14, x15, x16, x17, x18, x19, x20, x21, x22, x23, x24, x25], u.oneCell' = true) :
    Calls Tryz.prog 5 #[.int .i64 now, .int .i64 n, .agg #[x0, x1, x2, x3, x4, x5, x6, x7, x8, x9, x10, x11, x12, x13, x14, x15, x16, x17, x18, x19, x20, x21, x22, x23, x24, x25]] w fun e w' => e = .returned (.bool true) ∧ Mod (fun _ => False) w w' := by
  have hx24 : ∀ u ∈ [x0, x1, x2, x3, x4, x5, x6, x7, x8, x9, x10, x11, x12, x13, x14, x15, x16, x17, x18, x19, x20, x21, x22, x23], u.oneCell' = true := fun u hu => hx u (by rw [show ([x0, x1, x2, x3, x4, x5, x6, x7, x8, x9, x10, x11, x12, x13, x14, x15, x16, x17, x18, x19, x20, x21, x22, x23, x24, x25] : List Value) = [x0, x1, x2, x3, x4, x5, x6, x7, x8, x9, x10, x11, x12, x13, x14, x15, x16, x17, x18, x19, x20, x21, x22, x23] ++ [x24, x25] from rfl]; exact List.mem_append_left _ hu)
  have hxA : ∀ u ∈ [x4, x5, x6, x7, x8, x9, x10, x11, x12, x13, x14, x15, x16, x17, x18, x19, x20], u.oneCell' = true := fun u hu => hx u (by rw [show ([x0, x1, x2, x3, x4, x5, x6, x7, x8, x9, x10, x11, x12, x13, x14, x15, x16, x17, x18, x19, x20, x21, x22, x23, x24, x25] : List Value) = [x0, x1, x2, x3] ++ ([x4, x5, x6, x7, x8, x9, x10, x11, x12, x13, x14, x15, x16, x17, x18, x19, x20] ++ [x21, x22, x23, x24, x25]) from rfl]; exact List.mem_append_right _ (List.mem_append_left _ hu))
  have HX24 := Lib.hid hx24
  have HXA := Lib.hid hxA
  have H24 := Lib.hid h24
  have H25 := Lib.hid h25
  clear hx hx24 hxA h24 h25
  have hbB := allocNew w (.cells #[x0, x1, x2, x3, x4, x5, x6, x7, x8, x9, x10, x11, x12, x13, x14, x15, x16, x17, x18, x19, x20, x21, x22, x23, x24, x25] 28)
  have hmB : Mod (fun _ => False) w (w.alloc (.cells #[x0, x1, x2, x3, x4, x5, x6, x7, x8, x9, x10, x11, x12, x13, x14, x15, x16, x17, x18, x19, x20, x21, x22, x23, x24, x25] 28)) := (Mod.refl _ _).alloc _
  go_enter Tryz.func5, Tryz.ntmps5
  go_wp2_with fail
  obtain ⟨pb, hpb⟩ : ∃ pb, pb = w.heap.size := ⟨_, rfl⟩
  obtain ⟨W0, hW0⟩ : ∃ W0, W0 = w.alloc (.cells #[x0, x1, x2, x3, x4, x5, x6, x7, x8, x9, x10, x11, x12, x13, x14, x15, x16, x17, x18, x19, x20, x21, x22, x23, x24, x25] 28) := ⟨_, rfl⟩
  rw [← hW0, ← hpb] at hbB
  rw [← hW0] at hmB
  rw [← hW0]
  try rw [← hpb]
  have HB : Hid (W0.rangeAt pb 0 [x0, x1, x2, x3, x4, x5, x6, x7, x8, x9, x10, x11, x12, x13, x14, x15, x16, x17, x18, x19, x20, x21, x22, x23, x24, x25]) := Lib.hid (rangeOf hbB)
  have HM := Lib.hid hmB
  have HI28 : Hid ((Tryz.prog.info? 28).map (·.size) = some 26) := Lib.hid Tryz.size28
  have HI24 : Hid ((Tryz.prog.info? 24).map (·.size) = some 17) := Lib.hid Tryz.size24
  clear hbB hmB hW0 hpb
  refine (sNext_nil now _).mono ?_; rintro e W1 ⟨rfl, hm⟩
  replace HB := Lib.hid (keepRange hm HB.out)
  replace HM := Lib.hid (HM.out.trans hm fun _ f => f.elim)
  clear hm
  go_wp2_with fail
  refine (sLost_nil _).mono ?_; rintro e W2 ⟨rfl, hm⟩
  replace HB := Lib.hid (keepRange hm HB.out)
  replace HM := Lib.hid (HM.out.trans hm fun _ f => f.elim)
  clear hm
  go_wp2_with fail
  simp only [List.append, List.cons_append, List.nil_append, List.append_eq]
  refine wp_region_plan [] [(0, 0), (1, 0), (2, 0), (3, 0), (4, 1), (5, 1), (6, 2), (7, 2), (8, 0), (9, 0), (10, 0), (11, 0), (12, 0), (13, 2), (14, 0), (15, 0), (16, 0), (17, 0), (18, 0), (19, 0), (20, 2), (21, 0), (22, 0), (23, 0), (24, 0), (25, 0), (26, 2), (27, 0), (28, 0), (29, 0), (30, 0), (31, 0), (32, 2), (33, 0), (34, 0), (35, 0), (36, 0), (37, 0), (38, 2), (39, 0), (40, 0), (41, 0), (42, 0), (43, 0), (44, 0), (45, 0), (46, 1), (47, 0), (48, 1), (49, 2), (50, 0), (51, 0), (52, 0), (53, 0), (54, 0), (55, 0), (56, 0), (57, 2), (58, 0), (59, 0), (60, 0), (61, 0), (62, 0), (63, 0), (64, 2), (65, 0), (66, 0), (67, 0), (68, 0), (69, 0), (70, 0), (71, 0), (72, 0), (73, 0), (74, 0), (75, 0), (76, 0), (77, 0), (78, 0), (79, 0), (80, 0), (81, 2), (82, 0), (83, 0)] (fun w' : World => w'.rangeAt pb 0 [x0, x1, x2, x3, x4, x5, x6, x7, x8, x9, x10, x11, x12, x13, x14, x15, x16, x17, x18, x19, x20, x21, x22, x23, x24, x25] ∧ True) (by kernel_rfl) (by kernel_rfl) (fun d _ _ _ _ h => by cases d <;> exact h) ?_
  replace HB := Lib.hid (keepRange (Mod.refl (fun _ => False) _).drew HB.out)
  replace HM := Lib.hid HM.out.drew
  repeat (first | (refine plan_skip rfl rfl ?_; simp only [List.getElem_toArray, List.getElem_cons_succ, List.getElem_cons_zero, Act.put, List.setIfInBounds_toArray, List.set_cons_zero, List.set_cons_succ]) | (refine plan_pass2 rfl rfl ?_; simp only [List.getElem_toArray, List.getElem_cons_succ, List.getElem_cons_zero, Act.put, List.setIfInBounds_toArray, List.set_cons_zero, List.set_cons_succ]) | (refine plan_pass3 rfl rfl ?_; simp only [List.getElem_toArray, List.getElem_cons_succ, List.getElem_cons_zero, Act.put, List.setIfInBounds_toArray, List.set_cons_zero, List.set_cons_succ]) | (refine plan_take (v := ?_) rfl rfl ?_ ?_; rotate_left; (focus (intro w0; go_simp; try with_reducible rfl)); simp only [List.getElem_toArray, List.getElem_cons_succ, List.getElem_cons_zero, Act.put, List.setIfInBounds_toArray, List.set_cons_zero, List.set_cons_succ]) | fail )
  (refine plan_held (v := .agg #[x4, x5, x6, x7, x8, x9, x10, x11, x12, x13, x14, x15, x16, x17, x18, x19, x20]) rfl rfl ⟨HB.out, trivial⟩ (fun w0 h0 => exec_load_mid _ _ rfl pb 4 rfl [x4, x5, x6, x7, x8, x9, x10, x11, x12, x13, x14, x15, x16, x17, x18, x19, x20] _ w0 (subRange (cs := [x0, x1, x2, x3, x4, x5, x6, x7, x8, x9, x10, x11, x12, x13, x14, x15, x16, x17, x18, x19, x20, x21, x22, x23, x24, x25]) 4 17 h0.1) Tryz.underlying24 rfl HI24.out) ?_; try simp only [List.getElem_toArray, List.getElem_cons_succ, List.getElem_cons_zero, Act.put, List.setIfInBounds_toArray, List.set_cons_zero, List.set_cons_succ])
  (refine plan_held (v := .agg #[x0, x1, x2, x3, x4, x5, x6, x7, x8, x9, x10, x11, x12, x13, x14, x15, x16, x17, x18, x19, x20, x21, x22, x23, x24, x25]) rfl rfl ⟨HB.out, trivial⟩ (fun w0 h0 => exec_load_mid _ _ rfl pb 0 rfl [x0, x1, x2, x3, x4, x5, x6, x7, x8, x9, x10, x11, x12, x13, x14, x15, x16, x17, x18, x19, x20, x21, x22, x23, x24, x25] _ w0 h0.1 Tryz.underlying28 rfl HI28.out) ?_; try simp only [List.getElem_toArray, List.getElem_cons_succ, List.getElem_cons_zero, Act.put, List.setIfInBounds_toArray, List.set_cons_zero, List.set_cons_succ])
  (refine plan_do rfl rfl fun K hK => ?_; try simp only [List.getElem_toArray, List.getElem_cons_succ, List.getElem_cons_zero])
  go_simp
  refine (Few_any x0 x1 x2 x3 x4 x5 x6 x7 x8 x9 x10 x11 x12 x13 x14 x15 x16 x17 x18 x19 x20 x21 x22 x23 x24 x25 _ (AddrsOk.keep H24.out HM.out) (RecsOk.keep H25.out HM.out) HX24.out).mono ?_; rintro e W3 ⟨y24_1, y25_1, rfl, hy1, hy2, hm⟩
  have HY1 : Hid (∀ u ∈ [x0, x1, x2, x3, x4, x5, x6, x7, x8, x9, x10, x11, x12, x13, x14, x15, x16, x17, x18, x19, x20, x21, x22, x23, y24_1, y25_1], u.oneCell' = true) := Lib.hid fun u hu => by
    rw [show ([x0, x1, x2, x3, x4, x5, x6, x7, x8, x9, x10, x11, x12, x13, x14, x15, x16, x17, x18, x19, x20, x21, x22, x23, y24_1, y25_1] : List Value) = [x0, x1, x2, x3, x4, x5, x6, x7, x8, x9, x10, x11, x12, x13, x14, x15, x16, x17, x18, x19, x20, x21, x22, x23] ++ [y24_1, y25_1] from rfl] at hu
    rcases List.mem_append.1 hu with h | h
    · exact HX24.out u h
    · simp only [List.mem_cons, List.not_mem_nil, or_false] at h
      rcases h with rfl | rfl
      · exact hy1
      · exact hy2
  clear hy1 hy2
  replace HB := Lib.hid (keepRange hm HB.out)
  replace HM := Lib.hid (HM.out.trans hm fun _ f => f.elim)
  clear hm
  refine hK _ _ ⟨HB.out, trivial⟩ ?_
  clear hK K
  try simp only [List.getElem_toArray, List.getElem_cons_succ, List.getElem_cons_zero, Act.put, List.setIfInBounds_toArray, List.set_cons_zero, List.set_cons_succ]
  (refine plan_do rfl rfl fun K hK => ?_; try simp only [List.getElem_toArray, List.getElem_cons_succ, List.getElem_cons_zero])
  go_simp
  refine (sHear_nil now n x4 x5 x6 x7 x8 x9 x10 x11 x12 x13 x14 x15 x16 x17 x18 x19 x20 x0 x1 x2 x3 x4 x5 x6 x7 x8 x9 x10 x11 x12 x13 x14 x15 x16 x17 x18 x19 x20 x21 x22 x23 y24_1 y25_1 HXA.out HY1.out _).mono ?_; rintro e W4 ⟨rfl, hm⟩
  replace HB := Lib.hid (keepRange hm HB.out)
  replace HM := Lib.hid (HM.out.trans hm fun _ f => f.elim)
  clear hm
  refine hK _ _ ⟨HB.out, trivial⟩ ?_
  clear hK K
  try simp only [List.getElem_toArray, List.getElem_cons_succ, List.getElem_cons_zero, Act.put, List.setIfInBounds_toArray, List.set_cons_zero, List.set_cons_succ]
  repeat (first | (refine plan_skip rfl rfl ?_; simp only [List.getElem_toArray, List.getElem_cons_succ, List.getElem_cons_zero, Act.put, List.setIfInBounds_toArray, List.set_cons_zero, List.set_cons_succ]) | (refine plan_pass2 rfl rfl ?_; simp only [List.getElem_toArray, List.getElem_cons_succ, List.getElem_cons_zero, Act.put, List.setIfInBounds_toArray, List.set_cons_zero, List.set_cons_succ]) | (refine plan_pass3 rfl rfl ?_; simp only [List.getElem_toArray, List.getElem_cons_succ, List.getElem_cons_zero, Act.put, List.setIfInBounds_toArray, List.set_cons_zero, List.set_cons_succ]) | (refine plan_take (v := ?_) rfl rfl ?_ ?_; rotate_left; (focus (intro w0; go_simp; try with_reducible rfl)); simp only [List.getElem_toArray, List.getElem_cons_succ, List.getElem_cons_zero, Act.put, List.setIfInBounds_toArray, List.set_cons_zero, List.set_cons_succ]) | fail )
  (refine plan_do rfl rfl fun K hK => ?_; try simp only [List.getElem_toArray, List.getElem_cons_succ, List.getElem_cons_zero])
  go_simp
  refine (sTick_nil now _).mono ?_; rintro e W5 ⟨rfl, hm⟩
  replace HB := Lib.hid (keepRange hm HB.out)
  replace HM := Lib.hid (HM.out.trans hm fun _ f => f.elim)
  clear hm
  refine hK _ _ ⟨HB.out, trivial⟩ ?_
  clear hK K
  try simp only [List.getElem_toArray, List.getElem_cons_succ, List.getElem_cons_zero, Act.put, List.setIfInBounds_toArray, List.set_cons_zero, List.set_cons_succ]
  repeat (first | (refine plan_skip rfl rfl ?_; simp only [List.getElem_toArray, List.getElem_cons_succ, List.getElem_cons_zero, Act.put, List.setIfInBounds_toArray, List.set_cons_zero, List.set_cons_succ]) | (refine plan_pass2 rfl rfl ?_; simp only [List.getElem_toArray, List.getElem_cons_succ, List.getElem_cons_zero, Act.put, List.setIfInBounds_toArray, List.set_cons_zero, List.set_cons_succ]) | (refine plan_pass3 rfl rfl ?_; simp only [List.getElem_toArray, List.getElem_cons_succ, List.getElem_cons_zero, Act.put, List.setIfInBounds_toArray, List.set_cons_zero, List.set_cons_succ]) | (refine plan_take (v := ?_) rfl rfl ?_ ?_; rotate_left; (focus (intro w0; go_simp; try with_reducible rfl)); simp only [List.getElem_toArray, List.getElem_cons_succ, List.getElem_cons_zero, Act.put, List.setIfInBounds_toArray, List.set_cons_zero, List.set_cons_succ]) | fail )
  (refine plan_do rfl rfl fun K hK => ?_; try simp only [List.getElem_toArray, List.getElem_cons_succ, List.getElem_cons_zero])
  go_simp
  refine (sFast_nil n _).mono ?_; rintro e W6 ⟨rfl, hm⟩
  replace HB := Lib.hid (keepRange hm HB.out)
  replace HM := Lib.hid (HM.out.trans hm fun _ f => f.elim)
  clear hm
  refine hK _ _ ⟨HB.out, trivial⟩ ?_
  clear hK K
  try simp only [List.getElem_toArray, List.getElem_cons_succ, List.getElem_cons_zero, Act.put, List.setIfInBounds_toArray, List.set_cons_zero, List.set_cons_succ]
  repeat (first | (refine plan_skip rfl rfl ?_; simp only [List.getElem_toArray, List.getElem_cons_succ, List.getElem_cons_zero, Act.put, List.setIfInBounds_toArray, List.set_cons_zero, List.set_cons_succ]) | (refine plan_pass2 rfl rfl ?_; simp only [List.getElem_toArray, List.getElem_cons_succ, List.getElem_cons_zero, Act.put, List.setIfInBounds_toArray, List.set_cons_zero, List.set_cons_succ]) | (refine plan_pass3 rfl rfl ?_; simp only [List.getElem_toArray, List.getElem_cons_succ, List.getElem_cons_zero, Act.put, List.setIfInBounds_toArray, List.set_cons_zero, List.set_cons_succ]) | (refine plan_take (v := ?_) rfl rfl ?_ ?_; rotate_left; (focus (intro w0; go_simp; try with_reducible rfl)); simp only [List.getElem_toArray, List.getElem_cons_succ, List.getElem_cons_zero, Act.put, List.setIfInBounds_toArray, List.set_cons_zero, List.set_cons_succ]) | fail )
  (refine plan_do rfl rfl fun K hK => ?_; try simp only [List.getElem_toArray, List.getElem_cons_succ, List.getElem_cons_zero])
  go_simp
  refine (sFix_nil n _).mono ?_; rintro e W7 ⟨rfl, hm⟩
  replace HB := Lib.hid (keepRange hm HB.out)
  replace HM := Lib.hid (HM.out.trans hm fun _ f => f.elim)
  clear hm
  refine hK _ _ ⟨HB.out, trivial⟩ ?_
  clear hK K
  try simp only [List.getElem_toArray, List.getElem_cons_succ, List.getElem_cons_zero, Act.put, List.setIfInBounds_toArray, List.set_cons_zero, List.set_cons_succ]
  repeat (first | (refine plan_skip rfl rfl ?_; simp only [List.getElem_toArray, List.getElem_cons_succ, List.getElem_cons_zero, Act.put, List.setIfInBounds_toArray, List.set_cons_zero, List.set_cons_succ]) | (refine plan_pass2 rfl rfl ?_; simp only [List.getElem_toArray, List.getElem_cons_succ, List.getElem_cons_zero, Act.put, List.setIfInBounds_toArray, List.set_cons_zero, List.set_cons_succ]) | (refine plan_pass3 rfl rfl ?_; simp only [List.getElem_toArray, List.getElem_cons_succ, List.getElem_cons_zero, Act.put, List.setIfInBounds_toArray, List.set_cons_zero, List.set_cons_succ]) | (refine plan_take (v := ?_) rfl rfl ?_ ?_; rotate_left; (focus (intro w0; go_simp; try with_reducible rfl)); simp only [List.getElem_toArray, List.getElem_cons_succ, List.getElem_cons_zero, Act.put, List.setIfInBounds_toArray, List.set_cons_zero, List.set_cons_succ]) | fail )
  (refine plan_do rfl rfl fun K hK => ?_; try simp only [List.getElem_toArray, List.getElem_cons_succ, List.getElem_cons_zero])
  go_simp
  refine (sMine_nil now _).mono ?_; rintro e W8 ⟨rfl, hm⟩
  replace HB := Lib.hid (keepRange hm HB.out)
  replace HM := Lib.hid (HM.out.trans hm fun _ f => f.elim)
  clear hm
  refine hK _ _ ⟨HB.out, trivial⟩ ?_
  clear hK K
  try simp only [List.getElem_toArray, List.getElem_cons_succ, List.getElem_cons_zero, Act.put, List.setIfInBounds_toArray, List.set_cons_zero, List.set_cons_succ]
  repeat (first | (refine plan_skip rfl rfl ?_; simp only [List.getElem_toArray, List.getElem_cons_succ, List.getElem_cons_zero, Act.put, List.setIfInBounds_toArray, List.set_cons_zero, List.set_cons_succ]) | (refine plan_pass2 rfl rfl ?_; simp only [List.getElem_toArray, List.getElem_cons_succ, List.getElem_cons_zero, Act.put, List.setIfInBounds_toArray, List.set_cons_zero, List.set_cons_succ]) | (refine plan_pass3 rfl rfl ?_; simp only [List.getElem_toArray, List.getElem_cons_succ, List.getElem_cons_zero, Act.put, List.setIfInBounds_toArray, List.set_cons_zero, List.set_cons_succ]) | (refine plan_take (v := ?_) rfl rfl ?_ ?_; rotate_left; (focus (intro w0; go_simp; try with_reducible rfl)); simp only [List.getElem_toArray, List.getElem_cons_succ, List.getElem_cons_zero, Act.put, List.setIfInBounds_toArray, List.set_cons_zero, List.set_cons_succ]) | fail )
  (refine plan_do rfl rfl fun K hK => ?_; try simp only [List.getElem_toArray, List.getElem_cons_succ, List.getElem_cons_zero])
  go_simp
  refine (sWants_nil now _).mono ?_; rintro e W9 ⟨rfl, hm⟩
  replace HB := Lib.hid (keepRange hm HB.out)
  replace HM := Lib.hid (HM.out.trans hm fun _ f => f.elim)
  clear hm
  refine hK _ _ ⟨HB.out, trivial⟩ ?_
  clear hK K
  try simp only [List.getElem_toArray, List.getElem_cons_succ, List.getElem_cons_zero, Act.put, List.setIfInBounds_toArray, List.set_cons_zero, List.set_cons_succ]
  repeat (first | (refine plan_skip rfl rfl ?_; simp only [List.getElem_toArray, List.getElem_cons_succ, List.getElem_cons_zero, Act.put, List.setIfInBounds_toArray, List.set_cons_zero, List.set_cons_succ]) | (refine plan_pass2 rfl rfl ?_; simp only [List.getElem_toArray, List.getElem_cons_succ, List.getElem_cons_zero, Act.put, List.setIfInBounds_toArray, List.set_cons_zero, List.set_cons_succ]) | (refine plan_pass3 rfl rfl ?_; simp only [List.getElem_toArray, List.getElem_cons_succ, List.getElem_cons_zero, Act.put, List.setIfInBounds_toArray, List.set_cons_zero, List.set_cons_succ]) | (refine plan_take (v := ?_) rfl rfl ?_ ?_; rotate_left; (focus (intro w0; go_simp; try with_reducible rfl)); simp only [List.getElem_toArray, List.getElem_cons_succ, List.getElem_cons_zero, Act.put, List.setIfInBounds_toArray, List.set_cons_zero, List.set_cons_succ]) | fail )
  (refine plan_held (v := .agg #[x4, x5, x6, x7, x8, x9, x10, x11, x12, x13, x14, x15, x16, x17, x18, x19, x20]) rfl rfl ⟨HB.out, trivial⟩ (fun w0 h0 => exec_load_mid _ _ rfl pb 4 rfl [x4, x5, x6, x7, x8, x9, x10, x11, x12, x13, x14, x15, x16, x17, x18, x19, x20] _ w0 (subRange (cs := [x0, x1, x2, x3, x4, x5, x6, x7, x8, x9, x10, x11, x12, x13, x14, x15, x16, x17, x18, x19, x20, x21, x22, x23, x24, x25]) 4 17 h0.1) Tryz.underlying24 rfl HI24.out) ?_; try simp only [List.getElem_toArray, List.getElem_cons_succ, List.getElem_cons_zero, Act.put, List.setIfInBounds_toArray, List.set_cons_zero, List.set_cons_succ])
  repeat (first | (refine plan_skip rfl rfl ?_; simp only [List.getElem_toArray, List.getElem_cons_succ, List.getElem_cons_zero, Act.put, List.setIfInBounds_toArray, List.set_cons_zero, List.set_cons_succ]) | (refine plan_pass2 rfl rfl ?_; simp only [List.getElem_toArray, List.getElem_cons_succ, List.getElem_cons_zero, Act.put, List.setIfInBounds_toArray, List.set_cons_zero, List.set_cons_succ]) | (refine plan_pass3 rfl rfl ?_; simp only [List.getElem_toArray, List.getElem_cons_succ, List.getElem_cons_zero, Act.put, List.setIfInBounds_toArray, List.set_cons_zero, List.set_cons_succ]) | (refine plan_take (v := ?_) rfl rfl ?_ ?_; rotate_left; (focus (intro w0; go_simp; try with_reducible rfl)); simp only [List.getElem_toArray, List.getElem_cons_succ, List.getElem_cons_zero, Act.put, List.setIfInBounds_toArray, List.set_cons_zero, List.set_cons_succ]) | fail )
  (refine plan_held (v := .agg #[x4, x5, x6, x7, x8, x9, x10, x11, x12, x13, x14, x15, x16, x17, x18, x19, x20]) rfl rfl ⟨HB.out, trivial⟩ (fun w0 h0 => exec_load_mid _ _ rfl pb 4 rfl [x4, x5, x6, x7, x8, x9, x10, x11, x12, x13, x14, x15, x16, x17, x18, x19, x20] _ w0 (subRange (cs := [x0, x1, x2, x3, x4, x5, x6, x7, x8, x9, x10, x11, x12, x13, x14, x15, x16, x17, x18, x19, x20, x21, x22, x23, x24, x25]) 4 17 h0.1) Tryz.underlying24 rfl HI24.out) ?_; try simp only [List.getElem_toArray, List.getElem_cons_succ, List.getElem_cons_zero, Act.put, List.setIfInBounds_toArray, List.set_cons_zero, List.set_cons_succ])
  (refine plan_do rfl rfl fun K hK => ?_; try simp only [List.getElem_toArray, List.getElem_cons_succ, List.getElem_cons_zero])
  go_simp
  refine (sPorts_nil now x4 x5 x6 x7 x8 x9 x10 x11 x12 x13 x14 x15 x16 x17 x18 x19 x20 x4 x5 x6 x7 x8 x9 x10 x11 x12 x13 x14 x15 x16 x17 x18 x19 x20 HXA.out HXA.out _).mono ?_; rintro e W10 ⟨rfl, hm⟩
  replace HB := Lib.hid (keepRange hm HB.out)
  replace HM := Lib.hid (HM.out.trans hm fun _ f => f.elim)
  clear hm
  refine hK _ _ ⟨HB.out, trivial⟩ ?_
  clear hK K
  try simp only [List.getElem_toArray, List.getElem_cons_succ, List.getElem_cons_zero, Act.put, List.setIfInBounds_toArray, List.set_cons_zero, List.set_cons_succ]
  repeat (first | (refine plan_skip rfl rfl ?_; simp only [List.getElem_toArray, List.getElem_cons_succ, List.getElem_cons_zero, Act.put, List.setIfInBounds_toArray, List.set_cons_zero, List.set_cons_succ]) | (refine plan_pass2 rfl rfl ?_; simp only [List.getElem_toArray, List.getElem_cons_succ, List.getElem_cons_zero, Act.put, List.setIfInBounds_toArray, List.set_cons_zero, List.set_cons_succ]) | (refine plan_pass3 rfl rfl ?_; simp only [List.getElem_toArray, List.getElem_cons_succ, List.getElem_cons_zero, Act.put, List.setIfInBounds_toArray, List.set_cons_zero, List.set_cons_succ]) | (refine plan_take (v := ?_) rfl rfl ?_ ?_; rotate_left; (focus (intro w0; go_simp; try with_reducible rfl)); simp only [List.getElem_toArray, List.getElem_cons_succ, List.getElem_cons_zero, Act.put, List.setIfInBounds_toArray, List.set_cons_zero, List.set_cons_succ]) | fail )
  (refine plan_do rfl rfl fun K hK => ?_; try simp only [List.getElem_toArray, List.getElem_cons_succ, List.getElem_cons_zero])
  go_simp
  refine (sHeld_nil now n _).mono ?_; rintro e W11 ⟨rfl, hm⟩
  replace HB := Lib.hid (keepRange hm HB.out)
  replace HM := Lib.hid (HM.out.trans hm fun _ f => f.elim)
  clear hm
  refine hK _ _ ⟨HB.out, trivial⟩ ?_
  clear hK K
  try simp only [List.getElem_toArray, List.getElem_cons_succ, List.getElem_cons_zero, Act.put, List.setIfInBounds_toArray, List.set_cons_zero, List.set_cons_succ]
  repeat (first | (refine plan_skip rfl rfl ?_; simp only [List.getElem_toArray, List.getElem_cons_succ, List.getElem_cons_zero, Act.put, List.setIfInBounds_toArray, List.set_cons_zero, List.set_cons_succ]) | (refine plan_pass2 rfl rfl ?_; simp only [List.getElem_toArray, List.getElem_cons_succ, List.getElem_cons_zero, Act.put, List.setIfInBounds_toArray, List.set_cons_zero, List.set_cons_succ]) | (refine plan_pass3 rfl rfl ?_; simp only [List.getElem_toArray, List.getElem_cons_succ, List.getElem_cons_zero, Act.put, List.setIfInBounds_toArray, List.set_cons_zero, List.set_cons_succ]) | (refine plan_take (v := ?_) rfl rfl ?_ ?_; rotate_left; (focus (intro w0; go_simp; try with_reducible rfl)); simp only [List.getElem_toArray, List.getElem_cons_succ, List.getElem_cons_zero, Act.put, List.setIfInBounds_toArray, List.set_cons_zero, List.set_cons_succ]) | fail )
  (refine plan_do rfl rfl fun K hK => ?_; try simp only [List.getElem_toArray, List.getElem_cons_succ, List.getElem_cons_zero])
  go_simp
  refine (sRouters_nil now _).mono ?_; rintro e W12 ⟨rfl, hm⟩
  replace HB := Lib.hid (keepRange hm HB.out)
  replace HM := Lib.hid (HM.out.trans hm fun _ f => f.elim)
  clear hm
  refine hK _ _ ⟨HB.out, trivial⟩ ?_
  clear hK K
  try simp only [List.getElem_toArray, List.getElem_cons_succ, List.getElem_cons_zero, Act.put, List.setIfInBounds_toArray, List.set_cons_zero, List.set_cons_succ]
  repeat (first | (refine plan_skip rfl rfl ?_; simp only [List.getElem_toArray, List.getElem_cons_succ, List.getElem_cons_zero, Act.put, List.setIfInBounds_toArray, List.set_cons_zero, List.set_cons_succ]) | (refine plan_pass2 rfl rfl ?_; simp only [List.getElem_toArray, List.getElem_cons_succ, List.getElem_cons_zero, Act.put, List.setIfInBounds_toArray, List.set_cons_zero, List.set_cons_succ]) | (refine plan_pass3 rfl rfl ?_; simp only [List.getElem_toArray, List.getElem_cons_succ, List.getElem_cons_zero, Act.put, List.setIfInBounds_toArray, List.set_cons_zero, List.set_cons_succ]) | (refine plan_take (v := ?_) rfl rfl ?_ ?_; rotate_left; (focus (intro w0; go_simp; try with_reducible rfl)); simp only [List.getElem_toArray, List.getElem_cons_succ, List.getElem_cons_zero, Act.put, List.setIfInBounds_toArray, List.set_cons_zero, List.set_cons_succ]) | fail )
  (refine plan_do rfl rfl fun K hK => ?_; try simp only [List.getElem_toArray, List.getElem_cons_succ, List.getElem_cons_zero])
  go_simp
  refine (lives25_any _).mono ?_; rintro e W13 ⟨rfl, hm⟩
  replace HB := Lib.hid (keepRange hm HB.out)
  replace HM := Lib.hid (HM.out.trans hm fun _ f => f.elim)
  clear hm
  refine hK _ _ ⟨HB.out, trivial⟩ ?_
  clear hK K
  try simp only [List.getElem_toArray, List.getElem_cons_succ, List.getElem_cons_zero, Act.put, List.setIfInBounds_toArray, List.set_cons_zero, List.set_cons_succ]
  repeat (first | (refine plan_skip rfl rfl ?_; simp only [List.getElem_toArray, List.getElem_cons_succ, List.getElem_cons_zero, Act.put, List.setIfInBounds_toArray, List.set_cons_zero, List.set_cons_succ]) | (refine plan_pass2 rfl rfl ?_; simp only [List.getElem_toArray, List.getElem_cons_succ, List.getElem_cons_zero, Act.put, List.setIfInBounds_toArray, List.set_cons_zero, List.set_cons_succ]) | (refine plan_pass3 rfl rfl ?_; simp only [List.getElem_toArray, List.getElem_cons_succ, List.getElem_cons_zero, Act.put, List.setIfInBounds_toArray, List.set_cons_zero, List.set_cons_succ]) | (refine plan_take (v := ?_) rfl rfl ?_ ?_; rotate_left; (focus (intro w0; go_simp; try with_reducible rfl)); simp only [List.getElem_toArray, List.getElem_cons_succ, List.getElem_cons_zero, Act.put, List.setIfInBounds_toArray, List.set_cons_zero, List.set_cons_succ]) | fail )
  refine plan_nil ?_
  go_wp2
  try go_returns
  exact ⟨rfl, HM.out⟩
end Go.Proofs.YtalgllcbngibeaaGreat
