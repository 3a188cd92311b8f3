/- Few: a talk in memory of its own. -/
import Derived.Test.YtalgllcbngibeaaGreatFewA
import Derived.Deep.MidRow
import Derived.Lib.Hide
import Derived.Handy
namespace Go.Proofs.YtalgllcbngibeaaGreat
open Go.RowKit
set_option linter.unusedVariables false
set_option linter.unusedSimpArgs false
theorem Tryz.size28 : (Tryz.prog.info? 28).map (·.size) = some 26 := by kernel_rfl
theorem Tryz.size24 : (Tryz.prog.info? 24).map (·.size) = some 17 := by kernel_rfl
theorem keepRange {w w' : World} (hm : Mod (fun _ => False) w w') {b o : Nat} {cs : List Value} (h : w.rangeAt b o cs) : w'.rangeAt b o cs := fun j v hv => hm.cell (fun f => f) (h j v hv)
theorem subRange {w : World} {b : Nat} {cs : List Value} (o n : Nat) (h : w.rangeAt b 0 cs) : w.rangeAt b o ((cs.drop o).take n) := fun j v hv => by
  rw [List.getElem?_take] at hv
  split at hv
  · rw [List.getElem?_drop] at hv
    have := h _ _ hv
    rwa [Nat.zero_add] at this
  · cases hv
theorem rangeOf {w : World} {b : Nat} {cs : List Value} {t : TypeId} {z : Nat × Nat} (h : w.heap[b]? = some (.cells cs.toArray t z)) : w.rangeAt b 0 cs := fun j v hv => by
  rw [Nat.zero_add, cellOf h]
  simpa using hv
theorem thereOf {w : World} {b : Nat} {cs : Array Value} {t : TypeId} (h : w.heap[b]? = some (.cells cs t (0, 0))) : w.there b 0 cs.size := fun j hj => by
  rw [Nat.zero_add, cellOf h, freeOf h]
  simp [hj]
theorem Mod.setCells {F : Nat → Prop} {w : World} {b : Nat} : ∀ (vs : List Value) (o : Nat) {w' : World}, Mod F w w' → (F b ∨ w.heap.size ≤ b) → Mod F w (w'.setCells b o vs)
  | [], _, _, h, _ => h
  | v :: r, o, w', h, hb => by
    rw [World.setCells]
    exact Mod.setCells r (o + 1) (h.setCell hb v) hb
theorem results_cell {P : Program} {fn : Func} {s : Nat} {ty : TypeId} (h : fn.results = #[.cell s ty]) (tmps : Array Value) {ad : Addr} (ha : tmps.getD s undef = .pointer (some ad)) {v : Value} {w : World} (hl : (loadVar ty ad).run P w = .ok v w) : (results fn tmps).run P w = .ok v w := by
  unfold results
  rw [h]
  simp [ha, asAddr, Sem.run_bind, Sem.run_pure]
  rw [← Array.getD_eq_getD_getElem?, ha]
  simp [asAddr, Sem.run_bind, Sem.run_pure, hl]
set_option maxRecDepth 100000 in
set_option maxHeartbeats 1000000 in
theorem Few_any (x0 x1 x2 x3 x4 x5 x6 x7 x8 x9 x10 x11 x12 x13 x14 x15 x16 x17 x18 x19 x20 x21 x22 x23 x24 x25 : Value) (w : World) (h24 : AddrsOk w x24) (h25 : RecsOk w x25) (hx : ∀ u ∈ [x0, x1, x2, x3, x4, x5, x6, x7, x8, x9, x10, x11, x12, x13, x14, x15, x16, x17, x18, x19, x20, x21, x22, x23], u.oneCell' = true) :
    Calls Tryz.prog 10 #[.agg #[x0, x1, x2, x3, x4, x5, x6, x7, x8, x9, x10, x11, x12, x13, x14, x15, x16, x17, x18, x19, x20, x21, x22, x23, x24, x25]] w fun e w' => ∃ y24 y25, e = .returned (.agg #[x0, x1, x2, x3, x4, x5, x6, x7, x8, x9, x10, x11, x12, x13, x14, x15, x16, x17, x18, x19, x20, x21, x22, x23, y24, y25]) ∧ y24.oneCell' = true ∧ y25.oneCell' = true ∧ Mod (fun _ => False) w w' := by
  have HX := Lib.hid hx
  clear hx
  have H24 := Lib.hid h24
  have H25 := Lib.hid h25
  obtain ⟨a24, n24, c24, rfl, _⟩ := h24
  obtain ⟨a25, n25, c25, rfl, _⟩ := h25
  go_enter Tryz.func10, Tryz.ntmps10
  go_wp2_with fail
  obtain ⟨wA, hwA⟩ : ∃ wA, wA = (w.alloc (.cells #[x0, x1, x2, x3, x4, x5, x6, x7, x8, x9, x10, x11, x12, x13, x14, x15, x16, x17, x18, x19, x20, x21, x22, x23, .slice a24 n24 c24, .slice a25 n25 c25] 28)).alloc (.cells #[.bool false, .int .i64 0, .int .i64 0, .int .i64 0, .bool false, .int .u8 0, .int .u8 0, .int .u8 0, .int .u8 0, .int .u8 0, .int .u8 0, .int .u8 0, .int .u8 0, .int .u8 0, .int .u8 0, .int .u8 0, .int .u8 0, .int .u8 0, .int .u8 0, .int .u8 0, .int .u8 0, .bool false, .int .i64 0, .int .i64 0, .slice none 0 0, .slice none 0 0] 28) := ⟨_, rfl⟩
  have hm : Mod (fun _ => False) w wA := hwA ▸ ((Mod.refl _ _).alloc _).alloc _
  have hbA : wA.heap[w.heap.size]? = some (.cells #[x0, x1, x2, x3, x4, x5, x6, x7, x8, x9, x10, x11, x12, x13, x14, x15, x16, x17, x18, x19, x20, x21, x22, x23, .slice a24 n24 c24, .slice a25 n25 c25] 28 (0, 0)) := hwA ▸ allocFar (allocNew w _)
  have hbZ : wA.heap[w.heap.size + 1]? = some (.cells #[.bool false, .int .i64 0, .int .i64 0, .int .i64 0, .bool false, .int .u8 0, .int .u8 0, .int .u8 0, .int .u8 0, .int .u8 0, .int .u8 0, .int .u8 0, .int .u8 0, .int .u8 0, .int .u8 0, .int .u8 0, .int .u8 0, .int .u8 0, .int .u8 0, .int .u8 0, .int .u8 0, .bool false, .int .i64 0, .int .i64 0, .slice none 0 0, .slice none 0 0] 28 (0, 0)) := by rw [hwA]; have := allocNew (w.alloc (.cells #[x0, x1, x2, x3, x4, x5, x6, x7, x8, x9, x10, x11, x12, x13, x14, x15, x16, x17, x18, x19, x20, x21, x22, x23, .slice a24 n24 c24, .slice a25 n25 c25] 28)) (.cells #[.bool false, .int .i64 0, .int .i64 0, .int .i64 0, .bool false, .int .u8 0, .int .u8 0, .int .u8 0, .int .u8 0, .int .u8 0, .int .u8 0, .int .u8 0, .int .u8 0, .int .u8 0, .int .u8 0, .int .u8 0, .int .u8 0, .int .u8 0, .int .u8 0, .int .u8 0, .int .u8 0, .bool false, .int .i64 0, .int .i64 0, .slice none 0 0, .slice none 0 0] 28); simpa using this
  rw [← hwA]
  obtain ⟨pb, hpb⟩ : ∃ pb, pb = w.heap.size := ⟨_, rfl⟩
  obtain ⟨pz, hpz⟩ : ∃ pz, pz = w.heap.size + 1 := ⟨_, rfl⟩
  rw [← hpz] at hbZ
  rw [← hpb] at hbA
  rw [← hpz, ← hpb]
  have hne : pz ≠ pb := by omega
  have hS : wA.drew.cell? ⟨pb, 24, none⟩ = some (.slice a24 n24 c24) ∧ wA.drew.cell? ⟨pb, 25, none⟩ = some (.slice a25 n25 c25) := ⟨cellOf hbA 24, cellOf hbA 25⟩
  have HM : Hid (Mod (fun _ => False) w wA.drew) := Lib.hid hm.drew
  have HA : Hid (wA.drew.heap[pb]? = _) := Lib.hid hbA
  have HZ : Hid (wA.drew.heap[pz]? = _) := Lib.hid hbZ
  have HPB : Hid (w.heap.size ≤ pb ∧ w.heap.size ≤ pz) := Lib.hid ⟨by omega, by omega⟩
  clear hm hwA hbA hbZ hpb hpz
  refine wp_region_plan [7, 9] [(0, 0), (1, 1), (3, 0), (4, 1), (2, 2), (6, 0), (5, 2), (7, 3), (8, 0), (9, 3)] (fun w' : World => w'.cell? ⟨pb, 24, none⟩ = some (.slice a24 n24 c24) ∧ w'.cell? ⟨pb, 25, none⟩ = some (.slice a25 n25 c25)) (by kernel_rfl) (by kernel_rfl) (fun d _ _ _ _ h => by cases d <;> exact h) ?_
  repeat (first | (refine plan_skip rfl rfl ?_; simp only [List.getElem_toArray, List.getElem_cons_succ, List.getElem_cons_zero, Act.put, List.setIfInBounds_toArray, List.set_cons_zero, List.set_cons_succ]) | (refine plan_pass2 rfl rfl ?_; simp only [List.getElem_toArray, List.getElem_cons_succ, List.getElem_cons_zero, Act.put, List.setIfInBounds_toArray, List.set_cons_zero, List.set_cons_succ]) | (refine plan_pass3 rfl rfl ?_; simp only [List.getElem_toArray, List.getElem_cons_succ, List.getElem_cons_zero, Act.put, List.setIfInBounds_toArray, List.set_cons_zero, List.set_cons_succ]) | (refine plan_take (v := ?_) rfl rfl ?_ ?_; rotate_left; (focus (intro w0; go_simp; try with_reducible rfl)); simp only [List.getElem_toArray, List.getElem_cons_succ, List.getElem_cons_zero, Act.put, List.setIfInBounds_toArray, List.set_cons_zero, List.set_cons_succ]) | (refine plan_held (v := ?_) rfl rfl hS ?_ ?_; rotate_left; (focus (intro w0 hSw; (try dsimp only at hSw); go_split_ands; go_simp; try with_reducible rfl)); simp only [List.getElem_toArray, List.getElem_cons_succ, List.getElem_cons_zero, Act.put, List.setIfInBounds_toArray, List.set_cons_zero, List.set_cons_succ])  | (refine plan_skip1 rfl rfl hS ?_; simp only [List.getElem_toArray, List.getElem_cons_succ, List.getElem_cons_zero, Act.put, List.setIfInBounds_toArray, List.set_cons_zero, List.set_cons_succ]))
  (refine plan_do rfl rfl fun K hK => ?_; try simp only [List.getElem_toArray, List.getElem_cons_succ, List.getElem_cons_zero])
  go_simp
  refine (Addrs_any _ 6 _ (AddrsOk.keep H24.out HM.out) (by decide)).mono ?_; rintro e w3 ⟨a3, n3, cp3, rfl, hm3⟩
  have hS3 : w3.cell? ⟨pb, 24, none⟩ = some (.slice a24 n24 c24) ∧ w3.cell? ⟨pb, 25, none⟩ = some (.slice a25 n25 c25) := ⟨hm3.cell (fun f => f) hS.1, hm3.cell (fun f => f) hS.2⟩
  refine hK _ _ hS3 ?_
  clear hK K hS
  try simp only [List.getElem_toArray, List.getElem_cons_succ, List.getElem_cons_zero, Act.put, List.setIfInBounds_toArray, List.set_cons_zero, List.set_cons_succ]
  have HM3 := Lib.hid (HM.out.trans hm3 fun _ f => f.elim)
  have HA3 := Lib.hid (hm3.keep HA.out fun f => f)
  have HZ3 := Lib.hid (hm3.keep HZ.out fun f => f)
  clear hm3 HA HZ
  repeat (first | (refine plan_skip rfl rfl ?_; simp only [List.getElem_toArray, List.getElem_cons_succ, List.getElem_cons_zero, Act.put, List.setIfInBounds_toArray, List.set_cons_zero, List.set_cons_succ]) | (refine plan_pass2 rfl rfl ?_; simp only [List.getElem_toArray, List.getElem_cons_succ, List.getElem_cons_zero, Act.put, List.setIfInBounds_toArray, List.set_cons_zero, List.set_cons_succ]) | (refine plan_pass3 rfl rfl ?_; simp only [List.getElem_toArray, List.getElem_cons_succ, List.getElem_cons_zero, Act.put, List.setIfInBounds_toArray, List.set_cons_zero, List.set_cons_succ]) | (refine plan_take (v := ?_) rfl rfl ?_ ?_; rotate_left; (focus (intro w0; go_simp; try with_reducible rfl)); simp only [List.getElem_toArray, List.getElem_cons_succ, List.getElem_cons_zero, Act.put, List.setIfInBounds_toArray, List.set_cons_zero, List.set_cons_succ]) | fail )
  (refine plan_do rfl rfl fun K hK => ?_; try simp only [List.getElem_toArray, List.getElem_cons_succ, List.getElem_cons_zero])
  go_simp
  refine (Records_any _ 6 _ (RecsOk.keep H25.out HM3.out) (by decide)).mono ?_; rintro e w4 ⟨a4, n4, cp4, rfl, hm4⟩
  refine hK _ _ ⟨hm4.cell (fun f => f) hS3.1, hm4.cell (fun f => f) hS3.2⟩ ?_
  clear hK K hS3
  try simp only [List.getElem_toArray, List.getElem_cons_succ, List.getElem_cons_zero, Act.put, List.setIfInBounds_toArray, List.set_cons_zero, List.set_cons_succ]
  have HM4 := Lib.hid (HM3.out.trans hm4 fun _ f => f.elim)
  have HA4 := Lib.hid (hm4.keep HA3.out fun f => f)
  have HZ4 := Lib.hid (hm4.keep HZ3.out fun f => f)
  clear hm4 HA3 HZ3
  have k24 : w4.cell? ⟨pb, 24, none⟩ = some (.slice a24 n24 c24) := cellOf HA4.out 24
  have k25 : w4.cell? ⟨pb, 25, none⟩ = some (.slice a25 n25 c25) := cellOf HA4.out 25
  have f24 : w4.frozen? ⟨pb, 24, none⟩ = false := freeOf HA4.out 24
  have f25 : w4.frozen? ⟨pb, 25, none⟩ = false := freeOf HA4.out 25
  repeat (first | (refine plan_skip rfl rfl ?_; simp only [List.getElem_toArray, List.getElem_cons_succ, List.getElem_cons_zero, Act.put, List.setIfInBounds_toArray, List.set_cons_zero, List.set_cons_succ]) | (refine plan_pass2 rfl rfl ?_; simp only [List.getElem_toArray, List.getElem_cons_succ, List.getElem_cons_zero, Act.put, List.setIfInBounds_toArray, List.set_cons_zero, List.set_cons_succ]) | (refine plan_pass3 rfl rfl ?_; simp only [List.getElem_toArray, List.getElem_cons_succ, List.getElem_cons_zero, Act.put, List.setIfInBounds_toArray, List.set_cons_zero, List.set_cons_succ]) | (refine plan_take (v := ?_) rfl rfl ?_ ?_; rotate_left; (focus (intro w0; go_simp; try with_reducible rfl)); simp only [List.getElem_toArray, List.getElem_cons_succ, List.getElem_cons_zero, Act.put, List.setIfInBounds_toArray, List.set_cons_zero, List.set_cons_succ]) | fail )
  (refine plan_end rfl rfl rfl fun K hK => ?_; (try simp only [List.getElem_toArray, List.getElem_cons_succ, List.getElem_cons_zero]); go_simp; refine hK _ _ ?_; clear hK K; try simp only [List.getElem_toArray, List.getElem_cons_succ, List.getElem_cons_zero, Act.put, List.setIfInBounds_toArray, List.set_cons_zero, List.set_cons_succ])
  repeat (first | (refine plan_skip rfl rfl ?_; simp only [List.getElem_toArray, List.getElem_cons_succ, List.getElem_cons_zero, Act.put, List.setIfInBounds_toArray, List.set_cons_zero, List.set_cons_succ]) | (refine plan_pass2 rfl rfl ?_; simp only [List.getElem_toArray, List.getElem_cons_succ, List.getElem_cons_zero, Act.put, List.setIfInBounds_toArray, List.set_cons_zero, List.set_cons_succ]) | (refine plan_pass3 rfl rfl ?_; simp only [List.getElem_toArray, List.getElem_cons_succ, List.getElem_cons_zero, Act.put, List.setIfInBounds_toArray, List.set_cons_zero, List.set_cons_succ]) | (refine plan_take (v := ?_) rfl rfl ?_ ?_; rotate_left; (focus (intro w0; go_simp; try with_reducible rfl)); simp only [List.getElem_toArray, List.getElem_cons_succ, List.getElem_cons_zero, Act.put, List.setIfInBounds_toArray, List.set_cons_zero, List.set_cons_succ]) | fail )
  (refine plan_end rfl rfl rfl fun K hK => ?_; (try simp only [List.getElem_toArray, List.getElem_cons_succ, List.getElem_cons_zero]); go_simp; refine hK _ _ ?_; clear hK K; try simp only [List.getElem_toArray, List.getElem_cons_succ, List.getElem_cons_zero, Act.put, List.setIfInBounds_toArray, List.set_cons_zero, List.set_cons_succ])
  repeat (first | (refine plan_skip rfl rfl ?_; simp only [List.getElem_toArray, List.getElem_cons_succ, List.getElem_cons_zero, Act.put, List.setIfInBounds_toArray, List.set_cons_zero, List.set_cons_succ]) | (refine plan_pass2 rfl rfl ?_; simp only [List.getElem_toArray, List.getElem_cons_succ, List.getElem_cons_zero, Act.put, List.setIfInBounds_toArray, List.set_cons_zero, List.set_cons_succ]) | (refine plan_pass3 rfl rfl ?_; simp only [List.getElem_toArray, List.getElem_cons_succ, List.getElem_cons_zero, Act.put, List.setIfInBounds_toArray, List.set_cons_zero, List.set_cons_succ]) | (refine plan_take (v := ?_) rfl rfl ?_ ?_; rotate_left; (focus (intro w0; go_simp; try with_reducible rfl)); simp only [List.getElem_toArray, List.getElem_cons_succ, List.getElem_cons_zero, Act.put, List.setIfInBounds_toArray, List.set_cons_zero, List.set_cons_succ]) | fail )
  refine plan_nil ?_
  clear k24 k25 f24 f25
  obtain ⟨w5, hw5⟩ : ∃ w5, w5 = (w4.setCell ⟨pb, 24, none⟩ (.slice a3 n3 cp3)).setCell ⟨pb, 25, none⟩ (.slice a4 n4 cp4) := ⟨_, rfl⟩
  have hb5 : w5.heap[pb]? = some (.cells #[x0, x1, x2, x3, x4, x5, x6, x7, x8, x9, x10, x11, x12, x13, x14, x15, x16, x17, x18, x19, x20, x21, x22, x23, .slice a3 n3 cp3, .slice a4 n4 cp4] 28 (0, 0)) := hw5 ▸ setOf (setOf HA4.out 24 _) 25 _
  have hz5 : w5.heap[pz]? = some (.cells #[.bool false, .int .i64 0, .int .i64 0, .int .i64 0, .bool false, .int .u8 0, .int .u8 0, .int .u8 0, .int .u8 0, .int .u8 0, .int .u8 0, .int .u8 0, .int .u8 0, .int .u8 0, .int .u8 0, .int .u8 0, .int .u8 0, .int .u8 0, .int .u8 0, .int .u8 0, .int .u8 0, .bool false, .int .i64 0, .int .i64 0, .slice none 0 0, .slice none 0 0] 28 (0, 0)) := hw5 ▸ setFar (setFar HZ4.out hne _) hne _
  have hm5 : Mod (fun _ => False) w w5 := hw5 ▸ (HM4.out.setCell (.inr HPB.out.1) _).setCell (.inr HPB.out.1) _
  try rw [← hw5]
  have hr5 : w5.rangeAt pb 0 [x0, x1, x2, x3, x4, x5, x6, x7, x8, x9, x10, x11, x12, x13, x14, x15, x16, x17, x18, x19, x20, x21, x22, x23, .slice a3 n3 cp3, .slice a4 n4 cp4] := rangeOf hb5
  have ht5 : w5.there pz 0 26 := thereOf hz5
  have HR5 := Lib.hid hr5
  have HT5 := Lib.hid ht5
  have HM5 := Lib.hid hm5
  have hi28 : (Tryz.prog.info? 28).map (·.size) = some 26 := Tryz.size28
  have HI28 := Lib.hid hi28
  clear hw5 hb5 hz5 hm5 HA4 HZ4 hr5 ht5 hi28
  have hone : (#[x0, x1, x2, x3, x4, x5, x6, x7, x8, x9, x10, x11, x12, x13, x14, x15, x16, x17, x18, x19, x20, x21, x22, x23, .slice a3 n3 cp3, .slice a4 n4 cp4] : Array Value).all (·.oneCell') = true := all_oneCell_toArray (cs := [x0, x1, x2, x3, x4, x5, x6, x7, x8, x9, x10, x11, x12, x13, x14, x15, x16, x17, x18, x19, x20, x21, x22, x23, .slice a3 n3 cp3, .slice a4 n4 cp4]) fun v hv => by
    have := HX.out
    simp only [List.mem_cons, List.not_mem_nil, or_false] at hv this
    rcases hv with rfl | rfl | rfl | rfl | rfl | rfl | rfl | rfl | rfl | rfl | rfl | rfl | rfl | rfl | rfl | rfl | rfl | rfl | rfl | rfl | rfl | rfl | rfl | rfl | rfl | rfl
    all_goals first | exact this _ (by simp) | rfl
  have HONE := Lib.hid hone
  have hr6 : (w5.setCells pz 0 (#[x0, x1, x2, x3, x4, x5, x6, x7, x8, x9, x10, x11, x12, x13, x14, x15, x16, x17, x18, x19, x20, x21, x22, x23, .slice a3 n3 cp3, .slice a4 n4 cp4] : Array Value).toList).rangeAt pz 0 [x0, x1, x2, x3, x4, x5, x6, x7, x8, x9, x10, x11, x12, x13, x14, x15, x16, x17, x18, x19, x20, x21, x22, x23, .slice a3 n3 cp3, .slice a4 n4 cp4] := World.rangeAt_setCells_same _ _ _ _ HT5.out
  have HR6 := Lib.hid hr6
  have HM6 := Lib.hid (Mod.setCells (#[x0, x1, x2, x3, x4, x5, x6, x7, x8, x9, x10, x11, x12, x13, x14, x15, x16, x17, x18, x19, x20, x21, x22, x23, .slice a3 n3 cp3, .slice a4 n4 cp4] : Array Value).toList 0 HM5.out (.inr HPB.out.2))
  clear hr6 hone
  go_wp2_with (first | (refine wpList_load_mid rfl _ _ rfl pb 0 rfl [x0, x1, x2, x3, x4, x5, x6, x7, x8, x9, x10, x11, x12, x13, x14, x15, x16, x17, x18, x19, x20, x21, x22, x23, .slice a3 n3 cp3, .slice a4 n4 cp4] _ HR5.out Tryz.underlying28 rfl HI28.out ?_) | (refine wpList_store_mid rfl _ _ _ rfl pz 0 #[x0, x1, x2, x3, x4, x5, x6, x7, x8, x9, x10, x11, x12, x13, x14, x15, x16, x17, x18, x19, x20, x21, x22, x23, .slice a3 n3 cp3, .slice a4 n4 cp4] rfl rfl HT5.out HI28.out HONE.out ?_) | (refine bodyPost_ret (results_cell rfl _ rfl (run_loadVar_mid _ pz 0 _ [x0, x1, x2, x3, x4, x5, x6, x7, x8, x9, x10, x11, x12, x13, x14, x15, x16, x17, x18, x19, x20, x21, x22, x23, .slice a3 n3 cp3, .slice a4 n4 cp4] _ HR6.out Tryz.underlying28 rfl HI28.out)) rfl ?_))
  exact ⟨_, _, ⟨rfl, rfl⟩, rfl, rfl, HM6.out⟩
end Go.Proofs.YtalgllcbngibeaaGreat
