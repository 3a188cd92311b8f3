/- Few: a talk in memory of its own. -/
import Derived.Test.YtalgllcbngibeaaGreatTalk
import Derived.Test.YtalgllcbngibeaaGreatReg
import Derived.Lib.Hide
import Derived.Handy
namespace Go.Proofs.YtalgllcbngibeaaGreat
open Go.RowKit
set_option linter.unusedVariables false
set_option linter.unusedSimpArgs false
theorem oneCells {v : Value} (h : v.oneCell' = true) : v.cells = #[v] := by
  cases v <;> first | rfl | cases h
theorem Tryz.elAddr : Elem Tryz.prog 25 24 (.agg #[.bool false, .int .u8 0, .int .u8 0, .int .u8 0, .int .u8 0, .int .u8 0, .int .u8 0, .int .u8 0, .int .u8 0, .int .u8 0, .int .u8 0, .int .u8 0, .int .u8 0, .int .u8 0, .int .u8 0, .int .u8 0, .int .u8 0]) 17 17 := .mk' Tryz.underlying25 (by kernel_rfl) rfl
theorem Tryz.elRec : Elem Tryz.prog 26 82 (.agg #[.int .i64 0, .bool false, .int .u8 0, .int .u8 0, .int .u8 0, .int .u8 0, .int .u8 0, .int .u8 0, .int .u8 0, .int .u8 0, .int .u8 0, .int .u8 0, .int .u8 0, .int .u8 0, .int .u8 0, .int .u8 0, .int .u8 0, .int .u8 0, .slice none 0 0]) 19 56 := .mk' Tryz.underlying26 (by kernel_rfl) rfl
set_option maxRecDepth 100000 in
set_option maxHeartbeats 1000000 in
theorem Addrs_any (v : Value) (most : Nat) (w : World) (hv : AddrsOk w v) (hm : most ≤ 10) :
    Calls Tryz.prog 42 #[v, .int .i64 most] w fun e w' => ∃ ad n cap, e = .returned (.slice ad n cap) ∧ Mod (fun _ => False) w w' := by
  obtain ⟨ad, n, cap, rfl, hnc, hcm, hg⟩ := hv
  have HG := Lib.hid hg
  have hn63 : n ≤ 9223372036854775807 := by unfold maxLen at hcm; omega
  clear hg
  go_enter Tryz.func42, Tryz.ntmps42
  go_wp2
  go_loopw [5, 6] (fun v i wr => ∃ (k : Nat) (xs : List Value), k ≤ n ∧ k ≤ most ∧ i = .int .i64 k ∧ Row wr (fun k => w.heap.size ≤ k) 24 17 v k xs ∧ Mod (fun _ => False) w wr) (fun _ i _ => n - (intOf i).toNat)
  case atStart => exact ⟨0, [], Nat.zero_le _, Nat.zero_le _, rfl, Row.made (cur := #[]) (allocNew w _) rfl (by unfold maxLen; omega) (Nat.le_refl _), (Mod.refl _ _).alloc _⟩
  case round =>
    obtain ⟨k, xs, hk, hkm, rfl, hr, hmd⟩ := hrel
    have HR := Lib.hid hr
    have HM := Lib.hid hmd
    obtain ⟨a5, c5, rfl, hk5, hc5, _⟩ := hr.form
    clear hr hmd
    by_cases hlt : k < n
    · have hki : (k : Int) < (n : Int) := by omega
      by_cases hlm : k < most
      · have hkm2 : (k : Int) < (most : Int) := by omega
        obtain ⟨g, o, rfl, hgl, hcg⟩ := HG.out (by omega)
        obtain ⟨c, hc, _⟩ := hcg k hlt
        have hone : ∀ j, j < 17 → (c j).oneCell' = true := fun j hj => (hc j hj).2
        have x0 : wr.cell? ⟨g, o + k * 17, none⟩ = some (c 0) := HM.out.cell (fun f => f) (hc 0 (by decide)).1
        have x1 : wr.cell? ⟨g, o + k * 17 + 1, none⟩ = some (c 1) := HM.out.cell (fun f => f) (hc 1 (by decide)).1
        have x2 : wr.cell? ⟨g, o + k * 17 + 2, none⟩ = some (c 2) := HM.out.cell (fun f => f) (hc 2 (by decide)).1
        have x3 : wr.cell? ⟨g, o + k * 17 + 3, none⟩ = some (c 3) := HM.out.cell (fun f => f) (hc 3 (by decide)).1
        have x4 : wr.cell? ⟨g, o + k * 17 + 4, none⟩ = some (c 4) := HM.out.cell (fun f => f) (hc 4 (by decide)).1
        have x5 : wr.cell? ⟨g, o + k * 17 + 5, none⟩ = some (c 5) := HM.out.cell (fun f => f) (hc 5 (by decide)).1
        have x6 : wr.cell? ⟨g, o + k * 17 + 6, none⟩ = some (c 6) := HM.out.cell (fun f => f) (hc 6 (by decide)).1
        have x7 : wr.cell? ⟨g, o + k * 17 + 7, none⟩ = some (c 7) := HM.out.cell (fun f => f) (hc 7 (by decide)).1
        have x8 : wr.cell? ⟨g, o + k * 17 + 8, none⟩ = some (c 8) := HM.out.cell (fun f => f) (hc 8 (by decide)).1
        have x9 : wr.cell? ⟨g, o + k * 17 + 9, none⟩ = some (c 9) := HM.out.cell (fun f => f) (hc 9 (by decide)).1
        have x10 : wr.cell? ⟨g, o + k * 17 + 10, none⟩ = some (c 10) := HM.out.cell (fun f => f) (hc 10 (by decide)).1
        have x11 : wr.cell? ⟨g, o + k * 17 + 11, none⟩ = some (c 11) := HM.out.cell (fun f => f) (hc 11 (by decide)).1
        have x12 : wr.cell? ⟨g, o + k * 17 + 12, none⟩ = some (c 12) := HM.out.cell (fun f => f) (hc 12 (by decide)).1
        have x13 : wr.cell? ⟨g, o + k * 17 + 13, none⟩ = some (c 13) := HM.out.cell (fun f => f) (hc 13 (by decide)).1
        have x14 : wr.cell? ⟨g, o + k * 17 + 14, none⟩ = some (c 14) := HM.out.cell (fun f => f) (hc 14 (by decide)).1
        have x15 : wr.cell? ⟨g, o + k * 17 + 15, none⟩ = some (c 15) := HM.out.cell (fun f => f) (hc 15 (by decide)).1
        have x16 : wr.cell? ⟨g, o + k * 17 + 16, none⟩ = some (c 16) := HM.out.cell (fun f => f) (hc 16 (by decide)).1
        have HONE := Lib.hid hone
        clear hcg hc hone
        go_wp2_with (at_builtin; refine wpList_append_one Tryz.elAddr rfl (.tmp 19) (.tmp 24) rfl #[c 0, c 1, c 2, c 3, c 4, c 5, c 6, c 7, c 8, c 9, c 10, c 11, c 12, c 13, c 14, c 15, c 16] _ _ _ _ (HR.out.alloc _) _ (allocNew wr _) rfl rfl rfl (by intro u hu; simp at hu; rcases hu with rfl | rfl | rfl | rfl | rfl | rfl | rfl | rfl | rfl | rfl | rfl | rfl | rfl | rfl | rfl | rfl | rfl <;> exact HONE.out _ (by decide)) (by omega) (by unfold maxLen; omega) ?_)
        intro v4 w4 hR hm4
        obtain ⟨a4, c4, rfl, hn4, hc4, _⟩ := hR.form
        have hsz := HM.out.size
        have hm5 : Mod (fun _ => False) w w4 := (HM.out.alloc _).trans hm4 fun y hy => .inr (HR.out.2 y hy)
        have hR5 := hR.mono (f' := fun k => w.heap.size ≤ k) fun y hy => hy.elim id fun h => by first | omega | exact Nat.le_trans hsz (allocLe h) | (simp at h; omega)
        have HR5 := Lib.hid hR5
        have HM5 := Lib.hid hm5
        clear hR hm4 hm5 hR5 HR HONE x0 x1 x2 x3 x4 x5 x6 x7 x8 x9 x10 x11 x12 x13 x14 x15 x16
        go_wp2
        go_roundw
        case rel => exact ⟨k + 1, _, by omega, by omega, by go_num, HR5.out, HM5.out⟩
        case measure => simp [intOf]; omega
      · have hkm2 : ¬ (k : Int) < (most : Int) := by omega
        go_wp2
        go_returns
        first | exact ⟨⟨_, _, _, rfl⟩, HM.out⟩ | exact ⟨_, _, _, rfl, HM.out⟩
    · have hki : ¬ (k : Int) < (n : Int) := by omega
      go_wp2
      go_returns
      first | exact ⟨⟨_, _, _, rfl⟩, HM.out⟩ | exact ⟨_, _, _, rfl, HM.out⟩
set_option maxRecDepth 100000 in
set_option maxHeartbeats 2000000 in
theorem Records_any (v : Value) (most : Nat) (w : World) (hv : RecsOk w v) (hm : most ≤ 10) :
    Calls Tryz.prog 43 #[v, .int .i64 most] w fun e w' => ∃ ad n cap, e = .returned (.slice ad n cap) ∧ Mod (fun _ => False) w w' := by
  obtain ⟨ad, n, cap, rfl, hnc, hcm, hg⟩ := hv
  have HG := Lib.hid hg
  have hn63 : n ≤ 9223372036854775807 := by unfold maxLen at hcm; omega
  clear hg
  go_enter Tryz.func43, Tryz.ntmps43
  go_wp2
  go_loopw [5, 6] (fun v i wr => ∃ (k : Nat) (xs : List Value), k ≤ n ∧ k ≤ most ∧ i = .int .i64 k ∧ Row wr (fun k => w.heap.size ≤ k) 82 19 v k xs ∧ Mod (fun _ => False) w wr) (fun _ i _ => n - (intOf i).toNat)
  case atStart => exact ⟨0, [], Nat.zero_le _, Nat.zero_le _, rfl, Row.made (cur := #[]) (allocNew w _) rfl (by unfold maxLen; omega) (Nat.le_refl _), (Mod.refl _ _).alloc _⟩
  case round =>
    obtain ⟨k, xs, hk, hkm, rfl, hr, hmd⟩ := hrel
    have HR := Lib.hid hr
    have HM := Lib.hid hmd
    obtain ⟨a5, c5, rfl, hk5, hc5, _⟩ := hr.form
    clear hr hmd
    by_cases hlt : k < n
    · have hki : (k : Int) < (n : Int) := by omega
      by_cases hlm : k < most
      · have hkm2 : (k : Int) < (most : Int) := by omega
        obtain ⟨g, o, rfl, hgl, hcg⟩ := HG.out (by omega)
        obtain ⟨c, hc, hsrc⟩ := hcg k hlt
        have hone : ∀ j, j < 19 → (c j).oneCell' = true := fun j hj => (hc j hj).2
        have hS : wr.drew.cell? ⟨g, o + k * 19, none⟩ = some (c 0) ∧ wr.drew.cell? ⟨g, o + k * 19 + 1, none⟩ = some (c 1) ∧ wr.drew.cell? ⟨g, o + k * 19 + 2, none⟩ = some (c 2) ∧ wr.drew.cell? ⟨g, o + k * 19 + 3, none⟩ = some (c 3) ∧ wr.drew.cell? ⟨g, o + k * 19 + 4, none⟩ = some (c 4) ∧ wr.drew.cell? ⟨g, o + k * 19 + 5, none⟩ = some (c 5) ∧ wr.drew.cell? ⟨g, o + k * 19 + 6, none⟩ = some (c 6) ∧ wr.drew.cell? ⟨g, o + k * 19 + 7, none⟩ = some (c 7) ∧ wr.drew.cell? ⟨g, o + k * 19 + 8, none⟩ = some (c 8) ∧ wr.drew.cell? ⟨g, o + k * 19 + 9, none⟩ = some (c 9) ∧ wr.drew.cell? ⟨g, o + k * 19 + 10, none⟩ = some (c 10) ∧ wr.drew.cell? ⟨g, o + k * 19 + 11, none⟩ = some (c 11) ∧ wr.drew.cell? ⟨g, o + k * 19 + 12, none⟩ = some (c 12) ∧ wr.drew.cell? ⟨g, o + k * 19 + 13, none⟩ = some (c 13) ∧ wr.drew.cell? ⟨g, o + k * 19 + 14, none⟩ = some (c 14) ∧ wr.drew.cell? ⟨g, o + k * 19 + 15, none⟩ = some (c 15) ∧ wr.drew.cell? ⟨g, o + k * 19 + 16, none⟩ = some (c 16) ∧ wr.drew.cell? ⟨g, o + k * 19 + 17, none⟩ = some (c 17) ∧ wr.drew.cell? ⟨g, o + k * 19 + 18, none⟩ = some (c 18) := ⟨HM.out.cell (fun f => f) (hc 0 (by decide)).1, HM.out.cell (fun f => f) (hc 1 (by decide)).1, HM.out.cell (fun f => f) (hc 2 (by decide)).1, HM.out.cell (fun f => f) (hc 3 (by decide)).1, HM.out.cell (fun f => f) (hc 4 (by decide)).1, HM.out.cell (fun f => f) (hc 5 (by decide)).1, HM.out.cell (fun f => f) (hc 6 (by decide)).1, HM.out.cell (fun f => f) (hc 7 (by decide)).1, HM.out.cell (fun f => f) (hc 8 (by decide)).1, HM.out.cell (fun f => f) (hc 9 (by decide)).1, HM.out.cell (fun f => f) (hc 10 (by decide)).1, HM.out.cell (fun f => f) (hc 11 (by decide)).1, HM.out.cell (fun f => f) (hc 12 (by decide)).1, HM.out.cell (fun f => f) (hc 13 (by decide)).1, HM.out.cell (fun f => f) (hc 14 (by decide)).1, HM.out.cell (fun f => f) (hc 15 (by decide)).1, HM.out.cell (fun f => f) (hc 16 (by decide)).1, HM.out.cell (fun f => f) (hc 17 (by decide)).1, HM.out.cell (fun f => f) (hc 18 (by decide)).1⟩
        have HONE := Lib.hid hone
        have HSRC := Lib.hid (AddrsOk.keep hsrc HM.out)
        clear hcg hc hone hsrc
        go_wp2_with fail
        refine wp_region_plan [] [(0, 0), (1, 0), (2, 0), (3, 0), (4, 0), (5, 1), (6, 0), (7, 0), (8, 0), (9, 0), (10, 1), (11, 0), (12, 0), (13, 0), (14, 0), (15, 1), (16, 2), (17, 0), (18, 2), (19, 2), (20, 0)] (fun w' : World => w'.cell? ⟨g, o + k * 19, none⟩ = some (c 0) ∧ w'.cell? ⟨g, o + k * 19 + 1, none⟩ = some (c 1) ∧ w'.cell? ⟨g, o + k * 19 + 2, none⟩ = some (c 2) ∧ w'.cell? ⟨g, o + k * 19 + 3, none⟩ = some (c 3) ∧ w'.cell? ⟨g, o + k * 19 + 4, none⟩ = some (c 4) ∧ w'.cell? ⟨g, o + k * 19 + 5, none⟩ = some (c 5) ∧ w'.cell? ⟨g, o + k * 19 + 6, none⟩ = some (c 6) ∧ w'.cell? ⟨g, o + k * 19 + 7, none⟩ = some (c 7) ∧ w'.cell? ⟨g, o + k * 19 + 8, none⟩ = some (c 8) ∧ w'.cell? ⟨g, o + k * 19 + 9, none⟩ = some (c 9) ∧ w'.cell? ⟨g, o + k * 19 + 10, none⟩ = some (c 10) ∧ w'.cell? ⟨g, o + k * 19 + 11, none⟩ = some (c 11) ∧ w'.cell? ⟨g, o + k * 19 + 12, none⟩ = some (c 12) ∧ w'.cell? ⟨g, o + k * 19 + 13, none⟩ = some (c 13) ∧ w'.cell? ⟨g, o + k * 19 + 14, none⟩ = some (c 14) ∧ w'.cell? ⟨g, o + k * 19 + 15, none⟩ = some (c 15) ∧ w'.cell? ⟨g, o + k * 19 + 16, none⟩ = some (c 16) ∧ w'.cell? ⟨g, o + k * 19 + 17, none⟩ = some (c 17) ∧ w'.cell? ⟨g, o + k * 19 + 18, none⟩ = some (c 18)) (by kernel_rfl) (by kernel_rfl) (fun d _ _ _ _ h => by cases d <;> exact h) ?_
        repeat (first | (refine plan_skip rfl rfl ?_; simp only [List.getElem_toArray, List.getElem_cons_succ, List.getElem_cons_zero, Act.put, List.setIfInBounds_toArray, List.set_cons_zero, List.set_cons_succ]) | (refine plan_pass2 rfl rfl ?_; simp only [List.getElem_toArray, List.getElem_cons_succ, List.getElem_cons_zero, Act.put, List.setIfInBounds_toArray, List.set_cons_zero, List.set_cons_succ]) | (refine plan_pass3 rfl rfl ?_; simp only [List.getElem_toArray, List.getElem_cons_succ, List.getElem_cons_zero, Act.put, List.setIfInBounds_toArray, List.set_cons_zero, List.set_cons_succ]) | (refine plan_take (v := ?_) rfl rfl ?_ ?_; rotate_left; (focus (intro w0; go_simp; try with_reducible rfl)); simp only [List.getElem_toArray, List.getElem_cons_succ, List.getElem_cons_zero, Act.put, List.setIfInBounds_toArray, List.set_cons_zero, List.set_cons_succ]) | (refine plan_held (v := ?_) rfl rfl hS ?_ ?_; rotate_left; (focus (intro w0 hSw; (try dsimp only at hSw); go_split_ands; go_simp; try with_reducible rfl)); simp only [List.getElem_toArray, List.getElem_cons_succ, List.getElem_cons_zero, Act.put, List.setIfInBounds_toArray, List.set_cons_zero, List.set_cons_succ])  | (refine plan_skip1 rfl rfl hS ?_; simp only [List.getElem_toArray, List.getElem_cons_succ, List.getElem_cons_zero, Act.put, List.setIfInBounds_toArray, List.set_cons_zero, List.set_cons_succ]))
        (refine plan_do rfl rfl fun K hK => ?_; try simp only [List.getElem_toArray, List.getElem_cons_succ, List.getElem_cons_zero])
        go_simp
        refine (Addrs_any (c 18) 6 _ (AddrsOk.keep HSRC.out ((Mod.refl (fun _ => False) wr).drew)) (by decide)).mono ?_; rintro e w3 ⟨a3, n3, cp3, rfl, hm3⟩
        have hS3 : w3.cell? ⟨g, o + k * 19, none⟩ = some (c 0) ∧ w3.cell? ⟨g, o + k * 19 + 1, none⟩ = some (c 1) ∧ w3.cell? ⟨g, o + k * 19 + 2, none⟩ = some (c 2) ∧ w3.cell? ⟨g, o + k * 19 + 3, none⟩ = some (c 3) ∧ w3.cell? ⟨g, o + k * 19 + 4, none⟩ = some (c 4) ∧ w3.cell? ⟨g, o + k * 19 + 5, none⟩ = some (c 5) ∧ w3.cell? ⟨g, o + k * 19 + 6, none⟩ = some (c 6) ∧ w3.cell? ⟨g, o + k * 19 + 7, none⟩ = some (c 7) ∧ w3.cell? ⟨g, o + k * 19 + 8, none⟩ = some (c 8) ∧ w3.cell? ⟨g, o + k * 19 + 9, none⟩ = some (c 9) ∧ w3.cell? ⟨g, o + k * 19 + 10, none⟩ = some (c 10) ∧ w3.cell? ⟨g, o + k * 19 + 11, none⟩ = some (c 11) ∧ w3.cell? ⟨g, o + k * 19 + 12, none⟩ = some (c 12) ∧ w3.cell? ⟨g, o + k * 19 + 13, none⟩ = some (c 13) ∧ w3.cell? ⟨g, o + k * 19 + 14, none⟩ = some (c 14) ∧ w3.cell? ⟨g, o + k * 19 + 15, none⟩ = some (c 15) ∧ w3.cell? ⟨g, o + k * 19 + 16, none⟩ = some (c 16) ∧ w3.cell? ⟨g, o + k * 19 + 17, none⟩ = some (c 17) ∧ w3.cell? ⟨g, o + k * 19 + 18, none⟩ = some (c 18) := ⟨hm3.cell (fun f => f) hS.1, hm3.cell (fun f => f) hS.2.1, hm3.cell (fun f => f) hS.2.2.1, hm3.cell (fun f => f) hS.2.2.2.1, hm3.cell (fun f => f) hS.2.2.2.2.1, hm3.cell (fun f => f) hS.2.2.2.2.2.1, hm3.cell (fun f => f) hS.2.2.2.2.2.2.1, hm3.cell (fun f => f) hS.2.2.2.2.2.2.2.1, hm3.cell (fun f => f) hS.2.2.2.2.2.2.2.2.1, hm3.cell (fun f => f) hS.2.2.2.2.2.2.2.2.2.1, hm3.cell (fun f => f) hS.2.2.2.2.2.2.2.2.2.2.1, hm3.cell (fun f => f) hS.2.2.2.2.2.2.2.2.2.2.2.1, hm3.cell (fun f => f) hS.2.2.2.2.2.2.2.2.2.2.2.2.1, hm3.cell (fun f => f) hS.2.2.2.2.2.2.2.2.2.2.2.2.2.1, hm3.cell (fun f => f) hS.2.2.2.2.2.2.2.2.2.2.2.2.2.2.1, hm3.cell (fun f => f) hS.2.2.2.2.2.2.2.2.2.2.2.2.2.2.2.1, hm3.cell (fun f => f) hS.2.2.2.2.2.2.2.2.2.2.2.2.2.2.2.2.1, hm3.cell (fun f => f) hS.2.2.2.2.2.2.2.2.2.2.2.2.2.2.2.2.2.1, hm3.cell (fun f => f) hS.2.2.2.2.2.2.2.2.2.2.2.2.2.2.2.2.2.2⟩
        refine hK _ _ hS3 ?_
        clear hK K hS
        try simp only [List.getElem_toArray, List.getElem_cons_succ, List.getElem_cons_zero, Act.put, List.setIfInBounds_toArray, List.set_cons_zero, List.set_cons_succ]
        replace hm3 := Mod.ofDrew hm3
        have HM3 := Lib.hid (HM.out.trans hm3 fun _ f => f.elim)
        have HR3 := Lib.hid (HR.out.keep hm3 fun _ _ f => f)
        clear hm3
        have z0 := oneCells (HONE.out 0 (by decide))
        have z1 := oneCells (HONE.out 1 (by decide))
        have z2 := oneCells (HONE.out 2 (by decide))
        have z3 := oneCells (HONE.out 3 (by decide))
        have z4 := oneCells (HONE.out 4 (by decide))
        have z5 := oneCells (HONE.out 5 (by decide))
        have z6 := oneCells (HONE.out 6 (by decide))
        have z7 := oneCells (HONE.out 7 (by decide))
        have z8 := oneCells (HONE.out 8 (by decide))
        have z9 := oneCells (HONE.out 9 (by decide))
        have z10 := oneCells (HONE.out 10 (by decide))
        have z11 := oneCells (HONE.out 11 (by decide))
        have z12 := oneCells (HONE.out 12 (by decide))
        have z13 := oneCells (HONE.out 13 (by decide))
        have z14 := oneCells (HONE.out 14 (by decide))
        have z15 := oneCells (HONE.out 15 (by decide))
        have z16 := oneCells (HONE.out 16 (by decide))
        have z17 := oneCells (HONE.out 17 (by decide))
        unfold Value.cells at z0 z1 z2 z3 z4 z5 z6 z7 z8 z9 z10 z11 z12 z13 z14 z15 z16 z17
        repeat (first | (refine plan_skip rfl rfl ?_; simp only [List.getElem_toArray, List.getElem_cons_succ, List.getElem_cons_zero, Act.put, List.setIfInBounds_toArray, List.set_cons_zero, List.set_cons_succ]) | (refine plan_pass2 rfl rfl ?_; simp only [List.getElem_toArray, List.getElem_cons_succ, List.getElem_cons_zero, Act.put, List.setIfInBounds_toArray, List.set_cons_zero, List.set_cons_succ]) | (refine plan_pass3 rfl rfl ?_; simp only [List.getElem_toArray, List.getElem_cons_succ, List.getElem_cons_zero, Act.put, List.setIfInBounds_toArray, List.set_cons_zero, List.set_cons_succ]) | (refine plan_take (v := ?_) rfl rfl ?_ ?_; rotate_left; (focus (intro w0; go_simp; try with_reducible rfl)); simp only [List.getElem_toArray, List.getElem_cons_succ, List.getElem_cons_zero, Act.put, List.setIfInBounds_toArray, List.set_cons_zero, List.set_cons_succ]) | fail )
        (refine plan_do rfl rfl fun K hK => ?_; (try simp only [List.getElem_toArray, List.getElem_cons_succ, List.getElem_cons_zero]); go_simp; refine hK _ _ ⟨allocCell _ hS3.1, allocCell _ hS3.2.1, allocCell _ hS3.2.2.1, allocCell _ hS3.2.2.2.1, allocCell _ hS3.2.2.2.2.1, allocCell _ hS3.2.2.2.2.2.1, allocCell _ hS3.2.2.2.2.2.2.1, allocCell _ hS3.2.2.2.2.2.2.2.1, allocCell _ hS3.2.2.2.2.2.2.2.2.1, allocCell _ hS3.2.2.2.2.2.2.2.2.2.1, allocCell _ hS3.2.2.2.2.2.2.2.2.2.2.1, allocCell _ hS3.2.2.2.2.2.2.2.2.2.2.2.1, allocCell _ hS3.2.2.2.2.2.2.2.2.2.2.2.2.1, allocCell _ hS3.2.2.2.2.2.2.2.2.2.2.2.2.2.1, allocCell _ hS3.2.2.2.2.2.2.2.2.2.2.2.2.2.2.1, allocCell _ hS3.2.2.2.2.2.2.2.2.2.2.2.2.2.2.2.1, allocCell _ hS3.2.2.2.2.2.2.2.2.2.2.2.2.2.2.2.2.1, allocCell _ hS3.2.2.2.2.2.2.2.2.2.2.2.2.2.2.2.2.2.1, allocCell _ hS3.2.2.2.2.2.2.2.2.2.2.2.2.2.2.2.2.2.2⟩ ?_; clear hK K; try simp only [List.getElem_toArray, List.getElem_cons_succ, List.getElem_cons_zero, Act.put, List.setIfInBounds_toArray, List.set_cons_zero, List.set_cons_succ])
        repeat (first | (refine plan_skip rfl rfl ?_; simp only [List.getElem_toArray, List.getElem_cons_succ, List.getElem_cons_zero, Act.put, List.setIfInBounds_toArray, List.set_cons_zero, List.set_cons_succ]) | (refine plan_pass2 rfl rfl ?_; simp only [List.getElem_toArray, List.getElem_cons_succ, List.getElem_cons_zero, Act.put, List.setIfInBounds_toArray, List.set_cons_zero, List.set_cons_succ]) | (refine plan_pass3 rfl rfl ?_; simp only [List.getElem_toArray, List.getElem_cons_succ, List.getElem_cons_zero, Act.put, List.setIfInBounds_toArray, List.set_cons_zero, List.set_cons_succ]) | (refine plan_take (v := ?_) rfl rfl ?_ ?_; rotate_left; (focus (intro w0; go_simp; try with_reducible rfl)); simp only [List.getElem_toArray, List.getElem_cons_succ, List.getElem_cons_zero, Act.put, List.setIfInBounds_toArray, List.set_cons_zero, List.set_cons_succ]) | fail )
        (refine plan_do rfl rfl fun K hK => ?_; try simp only [List.getElem_toArray, List.getElem_cons_succ, List.getElem_cons_zero])
        refine wp_append_one Tryz.elRec (.tmp 19) (.tmp 37) rfl #[c 0, c 1, c 2, c 3, c 4, c 5, c 6, c 7, c 8, c 9, c 10, c 11, c 12, c 13, c 14, c 15, c 16, c 17, .slice a3 n3 cp3] _ _ _ _ (HR3.out.alloc _) _ (allocNew w3 _) rfl rfl rfl (by intro u hu; simp at hu; rcases hu with rfl | rfl | rfl | rfl | rfl | rfl | rfl | rfl | rfl | rfl | rfl | rfl | rfl | rfl | rfl | rfl | rfl | rfl | rfl <;> first | exact HONE.out _ (by decide) | rfl) (by omega) (by unfold maxLen; omega) ?_
        intro v4 w4 hR hm4
        obtain ⟨a4, c4, rfl, hn4, hc4, _⟩ := hR.form
        have hsz := HM3.out.size
        have hng : ¬ (Value.slice a5 k c5).ownBlock = some g := fun h => by have := HR3.out.2 _ h; omega
        refine hK _ _ ⟨hm4.cell hng (allocCell _ hS3.1), hm4.cell hng (allocCell _ hS3.2.1), hm4.cell hng (allocCell _ hS3.2.2.1), hm4.cell hng (allocCell _ hS3.2.2.2.1), hm4.cell hng (allocCell _ hS3.2.2.2.2.1), hm4.cell hng (allocCell _ hS3.2.2.2.2.2.1), hm4.cell hng (allocCell _ hS3.2.2.2.2.2.2.1), hm4.cell hng (allocCell _ hS3.2.2.2.2.2.2.2.1), hm4.cell hng (allocCell _ hS3.2.2.2.2.2.2.2.2.1), hm4.cell hng (allocCell _ hS3.2.2.2.2.2.2.2.2.2.1), hm4.cell hng (allocCell _ hS3.2.2.2.2.2.2.2.2.2.2.1), hm4.cell hng (allocCell _ hS3.2.2.2.2.2.2.2.2.2.2.2.1), hm4.cell hng (allocCell _ hS3.2.2.2.2.2.2.2.2.2.2.2.2.1), hm4.cell hng (allocCell _ hS3.2.2.2.2.2.2.2.2.2.2.2.2.2.1), hm4.cell hng (allocCell _ hS3.2.2.2.2.2.2.2.2.2.2.2.2.2.2.1), hm4.cell hng (allocCell _ hS3.2.2.2.2.2.2.2.2.2.2.2.2.2.2.2.1), hm4.cell hng (allocCell _ hS3.2.2.2.2.2.2.2.2.2.2.2.2.2.2.2.2.1), hm4.cell hng (allocCell _ hS3.2.2.2.2.2.2.2.2.2.2.2.2.2.2.2.2.2.1), hm4.cell hng (allocCell _ hS3.2.2.2.2.2.2.2.2.2.2.2.2.2.2.2.2.2.2)⟩ ?_
        clear hK K hS3 hng
        try simp only [List.getElem_toArray, List.getElem_cons_succ, List.getElem_cons_zero, Act.put, List.setIfInBounds_toArray, List.set_cons_zero, List.set_cons_succ]
        have hm5 : Mod (fun _ => False) w w4 := (HM3.out.alloc _).trans hm4 fun y hy => .inr (HR3.out.2 y hy)
        have hR5 := hR.mono (f' := fun k => w.heap.size ≤ k) fun y hy => hy.elim id fun h => by first | omega | exact Nat.le_trans hsz (allocLe h) | (simp at h; omega)
        have HR5 := Lib.hid hR5
        have HM5 := Lib.hid hm5
        clear hR hm4 hm5 hR5 HR HR3 HONE HSRC z0 z1 z2 z3 z4 z5 z6 z7 z8 z9 z10 z11 z12 z13 z14 z15 z16 z17
        repeat (first | (refine plan_skip rfl rfl ?_; simp only [List.getElem_toArray, List.getElem_cons_succ, List.getElem_cons_zero, Act.put, List.setIfInBounds_toArray, List.set_cons_zero, List.set_cons_succ]) | (refine plan_pass2 rfl rfl ?_; simp only [List.getElem_toArray, List.getElem_cons_succ, List.getElem_cons_zero, Act.put, List.setIfInBounds_toArray, List.set_cons_zero, List.set_cons_succ]) | (refine plan_pass3 rfl rfl ?_; simp only [List.getElem_toArray, List.getElem_cons_succ, List.getElem_cons_zero, Act.put, List.setIfInBounds_toArray, List.set_cons_zero, List.set_cons_succ]) | (refine plan_take (v := ?_) rfl rfl ?_ ?_; rotate_left; (focus (intro w0; go_simp; try with_reducible rfl)); simp only [List.getElem_toArray, List.getElem_cons_succ, List.getElem_cons_zero, Act.put, List.setIfInBounds_toArray, List.set_cons_zero, List.set_cons_succ]) | fail )
        refine plan_nil ?_
        go_wp2
        go_roundw
        case rel => exact ⟨k + 1, _, by omega, by omega, by go_num, HR5.out, HM5.out⟩
        case measure => simp [intOf]; omega
      · have hkm2 : ¬ (k : Int) < (most : Int) := by omega
        go_wp2
        go_returns
        first | exact ⟨⟨_, _, _, rfl⟩, HM.out⟩ | exact ⟨_, _, _, rfl, HM.out⟩
    · have hki : ¬ (k : Int) < (n : Int) := by omega
      go_wp2
      go_returns
      first | exact ⟨⟨_, _, _, rfl⟩, HM.out⟩ | exact ⟨_, _, _, rfl, HM.out⟩
end Go.Proofs.YtalgllcbngibeaaGreat
