/- .. pdqsort. (Printed by gen_sort.py.) -/
import Derived.Test.YtcccdlmngddalaaGreatGrSa
import Derived.Test.YtcccdlmngddalaaGreatGrLay
import Derived.Test.YtcccdlmngddalaaGreatGrSd
namespace Go.Proofs.YtcccdlmngddalaaGreat
open Go.RowKit
set_option linter.unusedVariables false
set_option linter.unusedSimpArgs false
section
variable {c g n cap : Nat} {ss0 : List ByteArray} {w0 : World}
set_option maxRecDepth 100000 in
set_option maxHeartbeats 4000000 in
theorem sftS (HC : Hid (SCx c g n cap ss0 w0)) {W : World} (hS : Srd g n cap ss0 w0 W) (lo hi first : Nat) (hlo : lo ≤ n) (hhi : first + hi ≤ n) :
    Calls Tryz.prog 196 #[.slice (some ⟨g, 0, none⟩) n cap, .int .i64 (lo : Int), .int .i64 (hi : Int), .int .i64 (first : Int), .func (.func 102) #[.pointer (some ⟨c, 0, none⟩)] #[]] W fun e W' => e = .returned (.tuple #[]) ∧ Srd g n cap ss0 w0 W' := by
  have hn4 := HC.out.n4
  have HS := Lib.hid hS
  clear hS
  go_enter Tryz.func196, Tryz.ntmps196
  go_wp2_with fail
  go_loopw [10] (fun iv wr => ∃ r : Nat, r ≤ n ∧ iv = .int .i64 (r : Int) ∧ Srd g n cap ss0 w0 wr) (fun iv _ => hi - (intOf iv).toNat)
  case atStart => exact ⟨lo, hlo, rfl, HS.out⟩
  case round =>
    obtain ⟨r, hrn, rfl, hs⟩ := hrel
    clear HS
    have HSI := Lib.hid hs
    clear hs
    have w_r : IntKind.i64.wrap (2 * (r : Int)) = 2 * (r : Int) := IntWalk.i64_in _ (by omega)
    obtain ⟨ch, hch⟩ : ∃ q : Nat, q = 2 * r + 1 := ⟨_, rfl⟩
    have H_ch := Lib.hid hch
    have e_ch : 2 * (r : Int) + 1 = (ch : Int) := by omega
    have w_ch : IntKind.i64.wrap (ch : Int) = (ch : Int) := IntWalk.i64_in _ (by omega)
    clear hch
    have hrc : r < ch := by have := H_ch.out; omega
    by_cases hch : ch < hi
    · have hci : ¬ (ch : Int) ≥ (hi : Int) := by omega
      obtain ⟨p, hp⟩ : ∃ q : Nat, q = first + r := ⟨_, rfl⟩
      have H_p := Lib.hid hp
      have e_p : (first : Int) + (r : Int) = (p : Int) := by omega
      have w_p : IntKind.i64.wrap (p : Int) = (p : Int) := IntWalk.i64_in _ (by omega)
      have l_p : p < n := by omega
      have k_p : (p : Int) < (n : Int) := by omega
      clear hp
      obtain ⟨c1, hc1⟩ : ∃ q : Nat, q = ch + 1 := ⟨_, rfl⟩
      have H_c1 := Lib.hid hc1
      have e_c1 : (ch : Int) + 1 = (c1 : Int) := by omega
      have w_c1 : IntKind.i64.wrap (c1 : Int) = (c1 : Int) := IntWalk.i64_in _ (by omega)
      clear hc1
      obtain ⟨pa, hpa⟩ : ∃ q : Nat, q = first + ch := ⟨_, rfl⟩
      have H_pa := Lib.hid hpa
      have e_pa : (first : Int) + (ch : Int) = (pa : Int) := by omega
      have w_pa : IntKind.i64.wrap (pa : Int) = (pa : Int) := IntWalk.i64_in _ (by omega)
      have l_pa : pa < n := by omega
      have k_pa : (pa : Int) < (n : Int) := by omega
      clear hpa
      go_wp2_with fail
      by_cases h1 : c1 < hi
      · have q1 : decide ((c1 : Int) < (hi : Int)) = true := decide_eq_true (by omega)
        have q2 : (c1 : Int) < (hi : Int) := by omega
        have h1' := H_c1.out
        have h2' := H_pa.out
        obtain ⟨pb, hpb⟩ : ∃ q : Nat, q = pa + 1 := ⟨_, rfl⟩
        have H_pb := Lib.hid hpb
        have e_pb : (pa : Int) + 1 = (pb : Int) := by omega
        have w_pb : IntKind.i64.wrap (pb : Int) = (pb : Int) := IntWalk.i64_in _ (by omega)
        have l_pb : pb < n := by omega
        have k_pb : (pb : Int) < (n : Int) := by omega
        clear hpb
        have e_pb2 : (first : Int) + (c1 : Int) = (pb : Int) := by have := H_pb.out; omega
        clear h1' h2'
        have hs := HSI.out
        obtain ⟨ssA, hpA, hrA, hmA⟩ := hs
        obtain ⟨xA, hxA⟩ : ∃ x, ssA[pa]? = some x := ⟨_, List.getElem?_eq_getElem (by rw [Srt.len hrA]; omega)⟩
        obtain ⟨yA, hyA⟩ : ∃ x, ssA[pb]? = some x := ⟨_, List.getElem?_eq_getElem (by rw [Srt.len hrA]; omega)⟩
        have hSA : wr.drew.cell? ⟨g, pa, none⟩ = some (.string xA) ∧ wr.drew.cell? ⟨g, pb, none⟩ = some (.string yA) := ⟨Srt.cell hrA hxA, Srt.cell hrA hyA⟩
        have hcA := HC.out.cmp wr.drew xA yA hmA.drew (hpA.mem_iff.1 (List.mem_of_getElem? hxA)) (hpA.mem_iff.1 (List.mem_of_getElem? hyA))
        have HSA := Lib.hid (Srt.mk' hpA hrA hmA)
        have HCA := Lib.hid hcA
        clear hpA hrA hmA hxA hyA hcA
        refine wp_region_plan [19] [(0, 0), (1, 0), (2, 0), (3, 0), (4, 0), (5, 0), (6, 0), (7, 0), (8, 0), (9, 0), (10, 0), (11, 1), (12, 0), (13, 0), (14, 0), (15, 0), (16, 0), (17, 0), (18, 1), (19, 3), (20, 0), (21, 0)] (fun w' : World => w'.cell? ⟨g, pa, none⟩ = some (.string xA) ∧ w'.cell? ⟨g, pb, none⟩ = some (.string yA)) (by kernel_rfl) (by kernel_rfl) (fun d v c a w h => by first | (cases d <;> exact h) | exact HP d v c a w h) ?_
        repeat ((first | refine plan_skip rfl rfl ?_ | refine plan_pass2 rfl rfl ?_ | refine plan_pass3 rfl rfl ?_ | (refine plan_take (v := ?_) rfl rfl ?_ ?_; rotate_left; focus (intro w0; go_simp; try with_reducible rfl)) | (refine plan_held (v := ?_) rfl rfl hSA ?_ ?_; rotate_left; focus (intro w0 hSw; (try dsimp only at hSw); go_split_ands; go_simp; try with_reducible rfl)) | refine plan_skip1 rfl rfl hSA ?_); simp only [List.getElem_toArray, List.getElem_cons_succ, List.getElem_cons_zero, Act.put, List.setIfInBounds_toArray, List.set_cons_zero, List.set_cons_succ])
        (refine plan_end rfl rfl rfl fun K hK => ?_; (try simp only [List.getElem_toArray, List.getElem_cons_succ, List.getElem_cons_zero]))
        go_simp
        refine HCA.out.mono ?_
        rintro e W1 ⟨⟨rA, rfl⟩, hmA⟩
        have hs1 : Srd g n cap ss0 w0 W1 := HSA.out.calm ((Mod.refl _ _).drew.trans hmA fun _ f => f.elim)
        refine hK _ _ ?_
        clear hK K hSA HSA HCA hmA
        try simp only [List.getElem_toArray, List.getElem_cons_succ, List.getElem_cons_zero, Act.put, List.setIfInBounds_toArray, List.set_cons_zero, List.set_cons_succ]
        by_cases hr1 : rA < 0
        · have hd : decide (rA < 0) = true := decide_eq_true hr1
          repeat ((first | refine plan_skip rfl rfl ?_ | refine plan_pass2 rfl rfl ?_ | refine plan_pass3 rfl rfl ?_ | (refine plan_take (v := ?_) rfl rfl ?_ ?_; rotate_left; focus (intro w0; go_simp; try with_reducible rfl))); simp only [List.getElem_toArray, List.getElem_cons_succ, List.getElem_cons_zero, Act.put, List.setIfInBounds_toArray, List.set_cons_zero, List.set_cons_succ])
          refine plan_nil ?_
          clear hd hr1
          have hs := hs1
          clear hs1
          have HPB := pb
          go_wp2_with fail
          obtain ⟨ssA, hpA, hrA, hmA⟩ := hs
          obtain ⟨xA, hxA⟩ : ∃ x, ssA[p]? = some x := ⟨_, List.getElem?_eq_getElem (by rw [Srt.len hrA]; omega)⟩
          obtain ⟨yA, hyA⟩ : ∃ x, ssA[pb]? = some x := ⟨_, List.getElem?_eq_getElem (by rw [Srt.len hrA]; omega)⟩
          have hSA : W1.drew.cell? ⟨g, p, none⟩ = some (.string xA) ∧ W1.drew.cell? ⟨g, pb, none⟩ = some (.string yA) := ⟨Srt.cell hrA hxA, Srt.cell hrA hyA⟩
          have hcA := HC.out.cmp W1.drew xA yA hmA.drew (hpA.mem_iff.1 (List.mem_of_getElem? hxA)) (hpA.mem_iff.1 (List.mem_of_getElem? hyA))
          have HSA := Lib.hid (Srt.mk' hpA hrA hmA)
          have HCA := Lib.hid hcA
          clear hpA hrA hmA hxA hyA hcA
          refine wp_region_plan [13] [(0, 0), (1, 0), (2, 0), (3, 0), (4, 0), (5, 0), (6, 1), (7, 0), (8, 0), (9, 0), (10, 0), (11, 0), (12, 1), (13, 3), (14, 0), (15, 0)] (fun w' : World => w'.cell? ⟨g, p, none⟩ = some (.string xA) ∧ w'.cell? ⟨g, pb, none⟩ = some (.string yA)) (by kernel_rfl) (by kernel_rfl) (fun d v c a w h => by first | (cases d <;> exact h) | exact HP d v c a w h) ?_
          repeat ((first | refine plan_skip rfl rfl ?_ | refine plan_pass2 rfl rfl ?_ | refine plan_pass3 rfl rfl ?_ | (refine plan_take (v := ?_) rfl rfl ?_ ?_; rotate_left; focus (intro w0; go_simp; try with_reducible rfl)) | (refine plan_held (v := ?_) rfl rfl hSA ?_ ?_; rotate_left; focus (intro w0 hSw; (try dsimp only at hSw); go_split_ands; go_simp; try with_reducible rfl)) | refine plan_skip1 rfl rfl hSA ?_); simp only [List.getElem_toArray, List.getElem_cons_succ, List.getElem_cons_zero, Act.put, List.setIfInBounds_toArray, List.set_cons_zero, List.set_cons_succ])
          (refine plan_end rfl rfl rfl fun K hK => ?_; (try simp only [List.getElem_toArray, List.getElem_cons_succ, List.getElem_cons_zero]))
          go_simp
          refine HCA.out.mono ?_
          rintro e W2 ⟨⟨rA, rfl⟩, hmA⟩
          have hs2 : Srd g n cap ss0 w0 W2 := HSA.out.calm ((Mod.refl _ _).drew.trans hmA fun _ f => f.elim)
          refine hK _ _ ?_
          clear hK K hSA HSA HCA hmA
          try simp only [List.getElem_toArray, List.getElem_cons_succ, List.getElem_cons_zero, Act.put, List.setIfInBounds_toArray, List.set_cons_zero, List.set_cons_succ]
          by_cases hr : rA < 0
          · have hd : decide (rA < 0) = true := decide_eq_true hr
            repeat ((first | refine plan_skip rfl rfl ?_ | refine plan_pass2 rfl rfl ?_ | refine plan_pass3 rfl rfl ?_ | (refine plan_take (v := ?_) rfl rfl ?_ ?_; rotate_left; focus (intro w0; go_simp; try with_reducible rfl))); simp only [List.getElem_toArray, List.getElem_cons_succ, List.getElem_cons_zero, Act.put, List.setIfInBounds_toArray, List.set_cons_zero, List.set_cons_succ])
            refine plan_nil ?_
            go_wp2_with fail
            obtain ⟨ssA, hpA, hrA, hmA⟩ := hs2
            obtain ⟨xA, hxA⟩ : ∃ x, ssA[p]? = some x := ⟨_, List.getElem?_eq_getElem (by rw [Srt.len hrA]; omega)⟩
            obtain ⟨yA, hyA⟩ : ∃ x, ssA[pb]? = some x := ⟨_, List.getElem?_eq_getElem (by rw [Srt.len hrA]; omega)⟩
            have hSA : W2.drew.cell? ⟨g, p, none⟩ = some (.string xA) ∧ W2.drew.cell? ⟨g, pb, none⟩ = some (.string yA) := ⟨Srt.cell hrA hxA, Srt.cell hrA hyA⟩
            have HPA := Lib.hid hpA
            have HRA := Lib.hid hrA
            have HMA := Lib.hid hmA
            have HXA := Lib.hid hxA
            have HYA := Lib.hid hyA
            clear hpA hrA hmA hxA hyA
            refine wp_region_plan [21, 23] [(0, 0), (1, 0), (2, 0), (3, 0), (4, 0), (5, 0), (6, 0), (7, 0), (8, 0), (9, 0), (10, 0), (11, 0), (12, 0), (13, 1), (14, 0), (15, 0), (16, 0), (17, 0), (18, 0), (19, 1), (20, 0), (21, 3), (22, 0), (23, 3)] (fun w' : World => w'.cell? ⟨g, p, none⟩ = some (.string xA) ∧ w'.cell? ⟨g, pb, none⟩ = some (.string yA)) (by kernel_rfl) (by kernel_rfl) (fun d v c a w h => by first | (cases d <;> exact h) | exact HP d v c a w h) ?_
            repeat ((first | refine plan_skip rfl rfl ?_ | refine plan_pass2 rfl rfl ?_ | refine plan_pass3 rfl rfl ?_ | (refine plan_take (v := ?_) rfl rfl ?_ ?_; rotate_left; focus (intro w0; go_simp; try with_reducible rfl)) | (refine plan_held (v := ?_) rfl rfl hSA ?_ ?_; rotate_left; focus (intro w0 hSw; (try dsimp only at hSw); go_split_ands; go_simp; try with_reducible rfl)) | refine plan_skip1 rfl rfl hSA ?_); simp only [List.getElem_toArray, List.getElem_cons_succ, List.getElem_cons_zero, Act.put, List.setIfInBounds_toArray, List.set_cons_zero, List.set_cons_succ])
            (refine plan_end rfl rfl rfl fun K hK => ?_; (try simp only [List.getElem_toArray, List.getElem_cons_succ, List.getElem_cons_zero]))
            refine wp_store_row1 9 _ _ rfl (Row.drew HRA.out) g (p) (.string yA) rfl rfl rfl (by rw [Srt.len' HRA.out]; omega) sSz rfl ?_
            intro W3 HR3 HM3
            refine hK _ _ ?_
            clear hK K hSA
            try simp only [List.getElem_toArray, List.getElem_cons_succ, List.getElem_cons_zero, Act.put, List.setIfInBounds_toArray, List.set_cons_zero, List.set_cons_succ]
            repeat ((first | refine plan_skip rfl rfl ?_ | refine plan_pass2 rfl rfl ?_ | refine plan_pass3 rfl rfl ?_ | (refine plan_take (v := ?_) rfl rfl ?_ ?_; rotate_left; focus (intro w0; go_simp; try with_reducible rfl))); simp only [List.getElem_toArray, List.getElem_cons_succ, List.getElem_cons_zero, Act.put, List.setIfInBounds_toArray, List.set_cons_zero, List.set_cons_succ])
            (refine plan_end rfl rfl rfl fun K hK => ?_; (try simp only [List.getElem_toArray, List.getElem_cons_succ, List.getElem_cons_zero]))
            refine wp_store_row1 9 _ _ rfl HR3.out g (pb) (.string xA) rfl rfl rfl (by rw [List.length_set, Srt.len' HRA.out]; omega) sSz rfl ?_
            intro W4 HR4 HM4
            refine hK _ _ ?_
            clear hK K
            try simp only [List.getElem_toArray, List.getElem_cons_succ, List.getElem_cons_zero, Act.put, List.setIfInBounds_toArray, List.set_cons_zero, List.set_cons_succ]
            refine plan_nil ?_
            have hs4 : Srd g n cap ss0 w0 W4 := Srt.swap HPA.out HRA.out HMA.out HXA.out HYA.out HR4.out (((Mod.refl _ _).drew.trans HM3.out fun q hq => .inl hq).trans HM4.out fun q hq => .inl hq)
            clear HPA HRA HMA HXA HYA HR3 HM3 HR4 HM4
            have HS4 := Lib.hid hs4
            clear hs4
            go_wp2
            go_roundw
            case rel => exact ⟨c1, by omega, rfl, HS4.out⟩
            case measure => have h1 := H_ch.out; simp [intOf]; omega
          · have hd : decide (rA < 0) = false := decide_eq_false hr
            repeat ((first | refine plan_skip rfl rfl ?_ | refine plan_pass2 rfl rfl ?_ | refine plan_pass3 rfl rfl ?_ | (refine plan_take (v := ?_) rfl rfl ?_ ?_; rotate_left; focus (intro w0; go_simp; try with_reducible rfl))); simp only [List.getElem_toArray, List.getElem_cons_succ, List.getElem_cons_zero, Act.put, List.setIfInBounds_toArray, List.set_cons_zero, List.set_cons_succ])
            refine plan_nil ?_
            have HS2 := Lib.hid hs2
            clear hs2
            go_wp2
            refine bodyPost_ret (results_none rfl _ _ _) rfl ?_
            exact ⟨rfl, HS2.out⟩
        · have hd : decide (rA < 0) = false := decide_eq_false hr1
          repeat ((first | refine plan_skip rfl rfl ?_ | refine plan_pass2 rfl rfl ?_ | refine plan_pass3 rfl rfl ?_ | (refine plan_take (v := ?_) rfl rfl ?_ ?_; rotate_left; focus (intro w0; go_simp; try with_reducible rfl))); simp only [List.getElem_toArray, List.getElem_cons_succ, List.getElem_cons_zero, Act.put, List.setIfInBounds_toArray, List.set_cons_zero, List.set_cons_succ])
          refine plan_nil ?_
          clear hd hr1
          have hs := hs1
          clear hs1
          go_wp2_with fail
          obtain ⟨ssA, hpA, hrA, hmA⟩ := hs
          obtain ⟨xA, hxA⟩ : ∃ x, ssA[p]? = some x := ⟨_, List.getElem?_eq_getElem (by rw [Srt.len hrA]; omega)⟩
          obtain ⟨yA, hyA⟩ : ∃ x, ssA[pa]? = some x := ⟨_, List.getElem?_eq_getElem (by rw [Srt.len hrA]; omega)⟩
          have hSA : W1.drew.cell? ⟨g, p, none⟩ = some (.string xA) ∧ W1.drew.cell? ⟨g, pa, none⟩ = some (.string yA) := ⟨Srt.cell hrA hxA, Srt.cell hrA hyA⟩
          have hcA := HC.out.cmp W1.drew xA yA hmA.drew (hpA.mem_iff.1 (List.mem_of_getElem? hxA)) (hpA.mem_iff.1 (List.mem_of_getElem? hyA))
          have HSA := Lib.hid (Srt.mk' hpA hrA hmA)
          have HCA := Lib.hid hcA
          clear hpA hrA hmA hxA hyA hcA
          refine wp_region_plan [13] [(0, 0), (1, 0), (2, 0), (3, 0), (4, 0), (5, 0), (6, 1), (7, 0), (8, 0), (9, 0), (10, 0), (11, 0), (12, 1), (13, 3), (14, 0), (15, 0)] (fun w' : World => w'.cell? ⟨g, p, none⟩ = some (.string xA) ∧ w'.cell? ⟨g, pa, none⟩ = some (.string yA)) (by kernel_rfl) (by kernel_rfl) (fun d v c a w h => by first | (cases d <;> exact h) | exact HP d v c a w h) ?_
          repeat ((first | refine plan_skip rfl rfl ?_ | refine plan_pass2 rfl rfl ?_ | refine plan_pass3 rfl rfl ?_ | (refine plan_take (v := ?_) rfl rfl ?_ ?_; rotate_left; focus (intro w0; go_simp; try with_reducible rfl)) | (refine plan_held (v := ?_) rfl rfl hSA ?_ ?_; rotate_left; focus (intro w0 hSw; (try dsimp only at hSw); go_split_ands; go_simp; try with_reducible rfl)) | refine plan_skip1 rfl rfl hSA ?_); simp only [List.getElem_toArray, List.getElem_cons_succ, List.getElem_cons_zero, Act.put, List.setIfInBounds_toArray, List.set_cons_zero, List.set_cons_succ])
          (refine plan_end rfl rfl rfl fun K hK => ?_; (try simp only [List.getElem_toArray, List.getElem_cons_succ, List.getElem_cons_zero]))
          go_simp
          refine HCA.out.mono ?_
          rintro e W2 ⟨⟨rA, rfl⟩, hmA⟩
          have hs2 : Srd g n cap ss0 w0 W2 := HSA.out.calm ((Mod.refl _ _).drew.trans hmA fun _ f => f.elim)
          refine hK _ _ ?_
          clear hK K hSA HSA HCA hmA
          try simp only [List.getElem_toArray, List.getElem_cons_succ, List.getElem_cons_zero, Act.put, List.setIfInBounds_toArray, List.set_cons_zero, List.set_cons_succ]
          by_cases hr : rA < 0
          · have hd : decide (rA < 0) = true := decide_eq_true hr
            repeat ((first | refine plan_skip rfl rfl ?_ | refine plan_pass2 rfl rfl ?_ | refine plan_pass3 rfl rfl ?_ | (refine plan_take (v := ?_) rfl rfl ?_ ?_; rotate_left; focus (intro w0; go_simp; try with_reducible rfl))); simp only [List.getElem_toArray, List.getElem_cons_succ, List.getElem_cons_zero, Act.put, List.setIfInBounds_toArray, List.set_cons_zero, List.set_cons_succ])
            refine plan_nil ?_
            go_wp2_with fail
            obtain ⟨ssA, hpA, hrA, hmA⟩ := hs2
            obtain ⟨xA, hxA⟩ : ∃ x, ssA[p]? = some x := ⟨_, List.getElem?_eq_getElem (by rw [Srt.len hrA]; omega)⟩
            obtain ⟨yA, hyA⟩ : ∃ x, ssA[pa]? = some x := ⟨_, List.getElem?_eq_getElem (by rw [Srt.len hrA]; omega)⟩
            have hSA : W2.drew.cell? ⟨g, p, none⟩ = some (.string xA) ∧ W2.drew.cell? ⟨g, pa, none⟩ = some (.string yA) := ⟨Srt.cell hrA hxA, Srt.cell hrA hyA⟩
            have HPA := Lib.hid hpA
            have HRA := Lib.hid hrA
            have HMA := Lib.hid hmA
            have HXA := Lib.hid hxA
            have HYA := Lib.hid hyA
            clear hpA hrA hmA hxA hyA
            refine wp_region_plan [21, 23] [(0, 0), (1, 0), (2, 0), (3, 0), (4, 0), (5, 0), (6, 0), (7, 0), (8, 0), (9, 0), (10, 0), (11, 0), (12, 0), (13, 1), (14, 0), (15, 0), (16, 0), (17, 0), (18, 0), (19, 1), (20, 0), (21, 3), (22, 0), (23, 3)] (fun w' : World => w'.cell? ⟨g, p, none⟩ = some (.string xA) ∧ w'.cell? ⟨g, pa, none⟩ = some (.string yA)) (by kernel_rfl) (by kernel_rfl) (fun d v c a w h => by first | (cases d <;> exact h) | exact HP d v c a w h) ?_
            repeat ((first | refine plan_skip rfl rfl ?_ | refine plan_pass2 rfl rfl ?_ | refine plan_pass3 rfl rfl ?_ | (refine plan_take (v := ?_) rfl rfl ?_ ?_; rotate_left; focus (intro w0; go_simp; try with_reducible rfl)) | (refine plan_held (v := ?_) rfl rfl hSA ?_ ?_; rotate_left; focus (intro w0 hSw; (try dsimp only at hSw); go_split_ands; go_simp; try with_reducible rfl)) | refine plan_skip1 rfl rfl hSA ?_); simp only [List.getElem_toArray, List.getElem_cons_succ, List.getElem_cons_zero, Act.put, List.setIfInBounds_toArray, List.set_cons_zero, List.set_cons_succ])
            (refine plan_end rfl rfl rfl fun K hK => ?_; (try simp only [List.getElem_toArray, List.getElem_cons_succ, List.getElem_cons_zero]))
            refine wp_store_row1 9 _ _ rfl (Row.drew HRA.out) g (p) (.string yA) rfl rfl rfl (by rw [Srt.len' HRA.out]; omega) sSz rfl ?_
            intro W3 HR3 HM3
            refine hK _ _ ?_
            clear hK K hSA
            try simp only [List.getElem_toArray, List.getElem_cons_succ, List.getElem_cons_zero, Act.put, List.setIfInBounds_toArray, List.set_cons_zero, List.set_cons_succ]
            repeat ((first | refine plan_skip rfl rfl ?_ | refine plan_pass2 rfl rfl ?_ | refine plan_pass3 rfl rfl ?_ | (refine plan_take (v := ?_) rfl rfl ?_ ?_; rotate_left; focus (intro w0; go_simp; try with_reducible rfl))); simp only [List.getElem_toArray, List.getElem_cons_succ, List.getElem_cons_zero, Act.put, List.setIfInBounds_toArray, List.set_cons_zero, List.set_cons_succ])
            (refine plan_end rfl rfl rfl fun K hK => ?_; (try simp only [List.getElem_toArray, List.getElem_cons_succ, List.getElem_cons_zero]))
            refine wp_store_row1 9 _ _ rfl HR3.out g (pa) (.string xA) rfl rfl rfl (by rw [List.length_set, Srt.len' HRA.out]; omega) sSz rfl ?_
            intro W4 HR4 HM4
            refine hK _ _ ?_
            clear hK K
            try simp only [List.getElem_toArray, List.getElem_cons_succ, List.getElem_cons_zero, Act.put, List.setIfInBounds_toArray, List.set_cons_zero, List.set_cons_succ]
            refine plan_nil ?_
            have hs4 : Srd g n cap ss0 w0 W4 := Srt.swap HPA.out HRA.out HMA.out HXA.out HYA.out HR4.out (((Mod.refl _ _).drew.trans HM3.out fun q hq => .inl hq).trans HM4.out fun q hq => .inl hq)
            clear HPA HRA HMA HXA HYA HR3 HM3 HR4 HM4
            have HS4 := Lib.hid hs4
            clear hs4
            go_wp2
            go_roundw
            case rel => exact ⟨ch, by omega, rfl, HS4.out⟩
            case measure => have h1 := H_ch.out; simp [intOf]; omega
          · have hd : decide (rA < 0) = false := decide_eq_false hr
            repeat ((first | refine plan_skip rfl rfl ?_ | refine plan_pass2 rfl rfl ?_ | refine plan_pass3 rfl rfl ?_ | (refine plan_take (v := ?_) rfl rfl ?_ ?_; rotate_left; focus (intro w0; go_simp; try with_reducible rfl))); simp only [List.getElem_toArray, List.getElem_cons_succ, List.getElem_cons_zero, Act.put, List.setIfInBounds_toArray, List.set_cons_zero, List.set_cons_succ])
            refine plan_nil ?_
            have HS2 := Lib.hid hs2
            clear hs2
            go_wp2
            refine bodyPost_ret (results_none rfl _ _ _) rfl ?_
            exact ⟨rfl, HS2.out⟩
      · have q1 : decide ((c1 : Int) < (hi : Int)) = false := decide_eq_false (by omega)
        have q2 : ¬ (c1 : Int) < (hi : Int) := by omega
        refine wp_region_plan [19] [(0, 0), (1, 0), (2, 0), (3, 0), (4, 0), (5, 0), (6, 0), (7, 0), (8, 0), (9, 0), (10, 0), (11, 1), (12, 0), (13, 0), (14, 0), (15, 0), (16, 0), (17, 0), (18, 1), (19, 3), (20, 0), (21, 0)] (fun w' : World => True) (by kernel_rfl) (by kernel_rfl) (fun d v c a w h => by first | (cases d <;> exact h) | exact HP d v c a w h) ?_
        repeat ((first | refine plan_skip rfl rfl ?_ | refine plan_pass2 rfl rfl ?_ | refine plan_pass3 rfl rfl ?_ | (refine plan_take (v := ?_) rfl rfl ?_ ?_; rotate_left; focus (intro w0; go_simp; try with_reducible rfl)) | (refine plan_held (v := ?_) rfl rfl trivial ?_ ?_; rotate_left; focus (intro w0 hSw; (try dsimp only at hSw); go_split_ands; go_simp; try with_reducible rfl)) | refine plan_skip1 rfl rfl trivial ?_); simp only [List.getElem_toArray, List.getElem_cons_succ, List.getElem_cons_zero, Act.put, List.setIfInBounds_toArray, List.set_cons_zero, List.set_cons_succ])
        refine plan_nil ?_
        have hs := HSI.out.drew
        obtain ⟨W1, hW1⟩ : ∃ W1, W1 = wr.drew := ⟨_, rfl⟩
        rw [← hW1] at hs ⊢
        clear hW1
        go_wp2_with fail
        obtain ⟨ssA, hpA, hrA, hmA⟩ := hs
        obtain ⟨xA, hxA⟩ : ∃ x, ssA[p]? = some x := ⟨_, List.getElem?_eq_getElem (by rw [Srt.len hrA]; omega)⟩
        obtain ⟨yA, hyA⟩ : ∃ x, ssA[pa]? = some x := ⟨_, List.getElem?_eq_getElem (by rw [Srt.len hrA]; omega)⟩
        have hSA : W1.drew.cell? ⟨g, p, none⟩ = some (.string xA) ∧ W1.drew.cell? ⟨g, pa, none⟩ = some (.string yA) := ⟨Srt.cell hrA hxA, Srt.cell hrA hyA⟩
        have hcA := HC.out.cmp W1.drew xA yA hmA.drew (hpA.mem_iff.1 (List.mem_of_getElem? hxA)) (hpA.mem_iff.1 (List.mem_of_getElem? hyA))
        have HSA := Lib.hid (Srt.mk' hpA hrA hmA)
        have HCA := Lib.hid hcA
        clear hpA hrA hmA hxA hyA hcA
        refine wp_region_plan [13] [(0, 0), (1, 0), (2, 0), (3, 0), (4, 0), (5, 0), (6, 1), (7, 0), (8, 0), (9, 0), (10, 0), (11, 0), (12, 1), (13, 3), (14, 0), (15, 0)] (fun w' : World => w'.cell? ⟨g, p, none⟩ = some (.string xA) ∧ w'.cell? ⟨g, pa, none⟩ = some (.string yA)) (by kernel_rfl) (by kernel_rfl) (fun d v c a w h => by first | (cases d <;> exact h) | exact HP d v c a w h) ?_
        repeat ((first | refine plan_skip rfl rfl ?_ | refine plan_pass2 rfl rfl ?_ | refine plan_pass3 rfl rfl ?_ | (refine plan_take (v := ?_) rfl rfl ?_ ?_; rotate_left; focus (intro w0; go_simp; try with_reducible rfl)) | (refine plan_held (v := ?_) rfl rfl hSA ?_ ?_; rotate_left; focus (intro w0 hSw; (try dsimp only at hSw); go_split_ands; go_simp; try with_reducible rfl)) | refine plan_skip1 rfl rfl hSA ?_); simp only [List.getElem_toArray, List.getElem_cons_succ, List.getElem_cons_zero, Act.put, List.setIfInBounds_toArray, List.set_cons_zero, List.set_cons_succ])
        (refine plan_end rfl rfl rfl fun K hK => ?_; (try simp only [List.getElem_toArray, List.getElem_cons_succ, List.getElem_cons_zero]))
        go_simp
        refine HCA.out.mono ?_
        rintro e W2 ⟨⟨rA, rfl⟩, hmA⟩
        have hs2 : Srd g n cap ss0 w0 W2 := HSA.out.calm ((Mod.refl _ _).drew.trans hmA fun _ f => f.elim)
        refine hK _ _ ?_
        clear hK K hSA HSA HCA hmA
        try simp only [List.getElem_toArray, List.getElem_cons_succ, List.getElem_cons_zero, Act.put, List.setIfInBounds_toArray, List.set_cons_zero, List.set_cons_succ]
        by_cases hr : rA < 0
        · have hd : decide (rA < 0) = true := decide_eq_true hr
          repeat ((first | refine plan_skip rfl rfl ?_ | refine plan_pass2 rfl rfl ?_ | refine plan_pass3 rfl rfl ?_ | (refine plan_take (v := ?_) rfl rfl ?_ ?_; rotate_left; focus (intro w0; go_simp; try with_reducible rfl))); simp only [List.getElem_toArray, List.getElem_cons_succ, List.getElem_cons_zero, Act.put, List.setIfInBounds_toArray, List.set_cons_zero, List.set_cons_succ])
          refine plan_nil ?_
          go_wp2_with fail
          obtain ⟨ssA, hpA, hrA, hmA⟩ := hs2
          obtain ⟨xA, hxA⟩ : ∃ x, ssA[p]? = some x := ⟨_, List.getElem?_eq_getElem (by rw [Srt.len hrA]; omega)⟩
          obtain ⟨yA, hyA⟩ : ∃ x, ssA[pa]? = some x := ⟨_, List.getElem?_eq_getElem (by rw [Srt.len hrA]; omega)⟩
          have hSA : W2.drew.cell? ⟨g, p, none⟩ = some (.string xA) ∧ W2.drew.cell? ⟨g, pa, none⟩ = some (.string yA) := ⟨Srt.cell hrA hxA, Srt.cell hrA hyA⟩
          have HPA := Lib.hid hpA
          have HRA := Lib.hid hrA
          have HMA := Lib.hid hmA
          have HXA := Lib.hid hxA
          have HYA := Lib.hid hyA
          clear hpA hrA hmA hxA hyA
          refine wp_region_plan [21, 23] [(0, 0), (1, 0), (2, 0), (3, 0), (4, 0), (5, 0), (6, 0), (7, 0), (8, 0), (9, 0), (10, 0), (11, 0), (12, 0), (13, 1), (14, 0), (15, 0), (16, 0), (17, 0), (18, 0), (19, 1), (20, 0), (21, 3), (22, 0), (23, 3)] (fun w' : World => w'.cell? ⟨g, p, none⟩ = some (.string xA) ∧ w'.cell? ⟨g, pa, none⟩ = some (.string yA)) (by kernel_rfl) (by kernel_rfl) (fun d v c a w h => by first | (cases d <;> exact h) | exact HP d v c a w h) ?_
          repeat ((first | refine plan_skip rfl rfl ?_ | refine plan_pass2 rfl rfl ?_ | refine plan_pass3 rfl rfl ?_ | (refine plan_take (v := ?_) rfl rfl ?_ ?_; rotate_left; focus (intro w0; go_simp; try with_reducible rfl)) | (refine plan_held (v := ?_) rfl rfl hSA ?_ ?_; rotate_left; focus (intro w0 hSw; (try dsimp only at hSw); go_split_ands; go_simp; try with_reducible rfl)) | refine plan_skip1 rfl rfl hSA ?_); simp only [List.getElem_toArray, List.getElem_cons_succ, List.getElem_cons_zero, Act.put, List.setIfInBounds_toArray, List.set_cons_zero, List.set_cons_succ])
          (refine plan_end rfl rfl rfl fun K hK => ?_; (try simp only [List.getElem_toArray, List.getElem_cons_succ, List.getElem_cons_zero]))
          refine wp_store_row1 9 _ _ rfl (Row.drew HRA.out) g (p) (.string yA) rfl rfl rfl (by rw [Srt.len' HRA.out]; omega) sSz rfl ?_
          intro W3 HR3 HM3
          refine hK _ _ ?_
          clear hK K hSA
          try simp only [List.getElem_toArray, List.getElem_cons_succ, List.getElem_cons_zero, Act.put, List.setIfInBounds_toArray, List.set_cons_zero, List.set_cons_succ]
          repeat ((first | refine plan_skip rfl rfl ?_ | refine plan_pass2 rfl rfl ?_ | refine plan_pass3 rfl rfl ?_ | (refine plan_take (v := ?_) rfl rfl ?_ ?_; rotate_left; focus (intro w0; go_simp; try with_reducible rfl))); simp only [List.getElem_toArray, List.getElem_cons_succ, List.getElem_cons_zero, Act.put, List.setIfInBounds_toArray, List.set_cons_zero, List.set_cons_succ])
          (refine plan_end rfl rfl rfl fun K hK => ?_; (try simp only [List.getElem_toArray, List.getElem_cons_succ, List.getElem_cons_zero]))
          refine wp_store_row1 9 _ _ rfl HR3.out g (pa) (.string xA) rfl rfl rfl (by rw [List.length_set, Srt.len' HRA.out]; omega) sSz rfl ?_
          intro W4 HR4 HM4
          refine hK _ _ ?_
          clear hK K
          try simp only [List.getElem_toArray, List.getElem_cons_succ, List.getElem_cons_zero, Act.put, List.setIfInBounds_toArray, List.set_cons_zero, List.set_cons_succ]
          refine plan_nil ?_
          have hs4 : Srd g n cap ss0 w0 W4 := Srt.swap HPA.out HRA.out HMA.out HXA.out HYA.out HR4.out (((Mod.refl _ _).drew.trans HM3.out fun q hq => .inl hq).trans HM4.out fun q hq => .inl hq)
          clear HPA HRA HMA HXA HYA HR3 HM3 HR4 HM4
          have HS4 := Lib.hid hs4
          clear hs4
          go_wp2
          go_roundw
          case rel => exact ⟨ch, by omega, rfl, HS4.out⟩
          case measure => have h1 := H_ch.out; simp [intOf]; omega
        · have hd : decide (rA < 0) = false := decide_eq_false hr
          repeat ((first | refine plan_skip rfl rfl ?_ | refine plan_pass2 rfl rfl ?_ | refine plan_pass3 rfl rfl ?_ | (refine plan_take (v := ?_) rfl rfl ?_ ?_; rotate_left; focus (intro w0; go_simp; try with_reducible rfl))); simp only [List.getElem_toArray, List.getElem_cons_succ, List.getElem_cons_zero, Act.put, List.setIfInBounds_toArray, List.set_cons_zero, List.set_cons_succ])
          refine plan_nil ?_
          have HS2 := Lib.hid hs2
          clear hs2
          go_wp2
          refine bodyPost_ret (results_none rfl _ _ _) rfl ?_
          exact ⟨rfl, HS2.out⟩
    · have hci : (ch : Int) ≥ (hi : Int) := by omega
      go_wp2
      go_end0
      exact ⟨rfl, HSI.out⟩
end
section
variable {c g n cap : Nat} {ss0 : List ByteArray} {w0 : World}
set_option maxRecDepth 100000 in
set_option maxHeartbeats 4000000 in
theorem hpsS (HC : Hid (SCx c g n cap ss0 w0)) {W : World} (hS : Srd g n cap ss0 w0 W) (a b : Nat) (hab : a < b) (hb : b ≤ n) :
    Calls Tryz.prog 178 #[.slice (some ⟨g, 0, none⟩) n cap, .int .i64 (a : Int), .int .i64 (b : Int), .func (.func 102) #[.pointer (some ⟨c, 0, none⟩)] #[]] W fun e W' => e = .returned (.tuple #[]) ∧ Srd g n cap ss0 w0 W' := by
  have hn4 := HC.out.n4
  have HS := Lib.hid hS
  clear hS
  obtain ⟨hi, hhi⟩ : ∃ q : Nat, q = b - a := ⟨_, rfl⟩
  have H_hi := Lib.hid hhi
  have e_hi : (b : Int) - (a : Int) = (hi : Int) := by omega
  have w_hi : IntKind.i64.wrap (hi : Int) = (hi : Int) := IntWalk.i64_in _ (by omega)
  clear hhi
  have hh1 : 1 ≤ hi := by have := H_hi.out; omega
  have hh2 : a + hi ≤ n := by have := H_hi.out; omega
  obtain ⟨hp, hhp⟩ : ∃ q : Nat, q = hi - 1 := ⟨_, rfl⟩
  have H_hp := Lib.hid hhp
  have e_hp : (hi : Int) - 1 = (hp : Int) := by omega
  have w_hp : IntKind.i64.wrap (hp : Int) = (hp : Int) := IntWalk.i64_in _ (by omega)
  clear hhp
  obtain ⟨md, hmd⟩ : ∃ q : Nat, q = hp / 2 := ⟨_, rfl⟩
  have H_md := Lib.hid hmd
  have w_md : IntKind.i64.wrap (md : Int) = (md : Int) := IntWalk.i64_in _ (by omega)
  clear hmd
  have hmd : md ≤ hi ∧ hp < hi := by have h1 := H_hp.out; have h2 := H_md.out; omega
  have e_md : ((hp : Nat) : Int).tdiv 2 = (md : Int) := by rw [H_md.out]; exact Int.ofNat_tdiv hp 2 |>.symm
  go_enter Tryz.func178, Tryz.ntmps178
  go_wp2_with fail
  go_loopw [11] (fun iv wr => (iv = .int .i64 (-1) ∨ ∃ i : Nat, i ≤ hi ∧ iv = .int .i64 (i : Int)) ∧ Srd g n cap ss0 w0 wr) (fun iv _ => (intOf iv + 1).toNat)
  case atStart => exact ⟨.inr ⟨md, hmd.1, by go_num⟩, HS.out⟩
  case round =>
    clear HS
    obtain ⟨h, hs⟩ := hrel
    have HSI := Lib.hid hs
    clear hs
    rcases h with rfl | ⟨i, hih, rfl⟩
    · go_wp2_with fail
      go_loopw [12] (fun iv wr => (iv = .int .i64 (-1) ∨ ∃ i : Nat, i < hi ∧ iv = .int .i64 (i : Int)) ∧ Srd g n cap ss0 w0 wr) (fun iv _ => (intOf iv + 1).toNat)
      case atStart => exact ⟨.inr ⟨hp, hmd.2, rfl⟩, HSI.out⟩
      case round =>
        clear HSI
        obtain ⟨h, hs⟩ := hrel
        rcases h with rfl | ⟨i, hih, rfl⟩
        · have HSI := Lib.hid hs
          clear hs
          go_wp2
          go_end0
          exact ⟨rfl, HSI.out⟩
        · have hi0 : (0 : Int) ≤ (i : Int) := by omega
          have han : a < n := by omega
          have q5 : (a : Int) < (n : Int) := by omega
          have q6 : IntKind.i64.wrap (a : Int) = (a : Int) := IntWalk.i64_in _ (by omega)
          go_wp2_with fail
          obtain ⟨p, hp⟩ : ∃ q : Nat, q = a + i := ⟨_, rfl⟩
          have H_p := Lib.hid hp
          have e_p : (a : Int) + (i : Int) = (p : Int) := by omega
          have w_p : IntKind.i64.wrap (p : Int) = (p : Int) := IntWalk.i64_in _ (by omega)
          have l_p : p < n := by omega
          have k_p : (p : Int) < (n : Int) := by omega
          clear hp
          obtain ⟨ssA, hpA, hrA, hmA⟩ := hs
          obtain ⟨xA, hxA⟩ : ∃ x, ssA[a]? = some x := ⟨_, List.getElem?_eq_getElem (by rw [Srt.len hrA]; omega)⟩
          obtain ⟨yA, hyA⟩ : ∃ x, ssA[p]? = some x := ⟨_, List.getElem?_eq_getElem (by rw [Srt.len hrA]; omega)⟩
          have hSA : wr.drew.cell? ⟨g, a, none⟩ = some (.string xA) ∧ wr.drew.cell? ⟨g, p, none⟩ = some (.string yA) := ⟨Srt.cell hrA hxA, Srt.cell hrA hyA⟩
          have HPA := Lib.hid hpA
          have HRA := Lib.hid hrA
          have HMA := Lib.hid hmA
          have HXA := Lib.hid hxA
          have HYA := Lib.hid hyA
          clear hpA hrA hmA hxA hyA
          refine wp_region_plan [17, 19] [(0, 0), (1, 0), (2, 0), (3, 0), (4, 0), (5, 0), (6, 0), (7, 0), (8, 0), (9, 0), (10, 0), (11, 1), (12, 0), (13, 0), (14, 0), (15, 1), (16, 0), (17, 3), (18, 0), (19, 3)] (fun w' : World => w'.cell? ⟨g, a, none⟩ = some (.string xA) ∧ w'.cell? ⟨g, p, none⟩ = some (.string yA)) (by kernel_rfl) (by kernel_rfl) (fun d v c a w h => by first | (cases d <;> exact h) | exact HP d v c a w h) ?_
          repeat ((first | refine plan_skip rfl rfl ?_ | refine plan_pass2 rfl rfl ?_ | refine plan_pass3 rfl rfl ?_ | (refine plan_take (v := ?_) rfl rfl ?_ ?_; rotate_left; focus (intro w0; go_simp; try with_reducible rfl)) | (refine plan_held (v := ?_) rfl rfl hSA ?_ ?_; rotate_left; focus (intro w0 hSw; (try dsimp only at hSw); go_split_ands; go_simp; try with_reducible rfl)) | refine plan_skip1 rfl rfl hSA ?_); simp only [List.getElem_toArray, List.getElem_cons_succ, List.getElem_cons_zero, Act.put, List.setIfInBounds_toArray, List.set_cons_zero, List.set_cons_succ])
          (refine plan_end rfl rfl rfl fun K hK => ?_; (try simp only [List.getElem_toArray, List.getElem_cons_succ, List.getElem_cons_zero]))
          refine wp_store_row1 9 _ _ rfl (Row.drew HRA.out) g (a) (.string yA) rfl rfl rfl (by rw [Srt.len' HRA.out]; omega) sSz rfl ?_
          intro W3 HR3 HM3
          refine hK _ _ ?_
          clear hK K hSA
          try simp only [List.getElem_toArray, List.getElem_cons_succ, List.getElem_cons_zero, Act.put, List.setIfInBounds_toArray, List.set_cons_zero, List.set_cons_succ]
          repeat ((first | refine plan_skip rfl rfl ?_ | refine plan_pass2 rfl rfl ?_ | refine plan_pass3 rfl rfl ?_ | (refine plan_take (v := ?_) rfl rfl ?_ ?_; rotate_left; focus (intro w0; go_simp; try with_reducible rfl))); simp only [List.getElem_toArray, List.getElem_cons_succ, List.getElem_cons_zero, Act.put, List.setIfInBounds_toArray, List.set_cons_zero, List.set_cons_succ])
          (refine plan_end rfl rfl rfl fun K hK => ?_; (try simp only [List.getElem_toArray, List.getElem_cons_succ, List.getElem_cons_zero]))
          refine wp_store_row1 9 _ _ rfl HR3.out g (p) (.string xA) rfl rfl rfl (by rw [List.length_set, Srt.len' HRA.out]; omega) sSz rfl ?_
          intro W4 HR4 HM4
          refine hK _ _ ?_
          clear hK K
          try simp only [List.getElem_toArray, List.getElem_cons_succ, List.getElem_cons_zero, Act.put, List.setIfInBounds_toArray, List.set_cons_zero, List.set_cons_succ]
          refine plan_nil ?_
          have hs4 : Srd g n cap ss0 w0 W4 := Srt.swap HPA.out HRA.out HMA.out HXA.out HYA.out HR4.out (((Mod.refl _ _).drew.trans HM3.out fun q hq => .inl hq).trans HM4.out fun q hq => .inl hq)
          clear HPA HRA HMA HXA HYA HR3 HM3 HR4 HM4
          have HS4 := Lib.hid hs4
          clear hs4
          go_wp2_with (go_at_call 196; refine (sftS HC HS4.out 0 i a (by omega) (by omega)).mono ?_; rintro e W5 ⟨rfl, hs5⟩; have HS5 := Lib.hid hs5; clear hs5)
          go_roundw
          case rel =>
            refine ⟨?_, HS5.out⟩
            rcases Nat.eq_zero_or_pos i with rfl | hi0
            · exact .inl (by go_num)
            · refine .inr ⟨i - 1, by omega, ?_⟩
              rw [show ((i - 1 : Nat) : Int) = (i : Int) - 1 by omega]
              try rfl
          case measure => first | (simp [intOf]; omega) | simp [intOf]
    · have hi0 : (0 : Int) ≤ (i : Int) := by omega
      go_wp2_with (go_at_call 196; refine (sftS HC HSI.out i hi a (by omega) (by omega)).mono ?_; rintro e W2 ⟨rfl, hs2⟩; have HS2 := Lib.hid hs2; clear hs2)
      go_roundw
      case rel =>
        refine ⟨?_, HS2.out⟩
        rcases Nat.eq_zero_or_pos i with rfl | hi0
        · exact .inl (by go_num)
        · refine .inr ⟨i - 1, by omega, ?_⟩
          rw [show ((i - 1 : Nat) : Int) = (i : Int) - 1 by omega]
          try rfl
      case measure => first | (simp [intOf]; omega) | simp [intOf]
end
end Go.Proofs.YtcccdlmngddalaaGreat
namespace Go.Proofs.YtcccdlmngddalaaGreat
open Go.RowKit
set_option linter.unusedVariables false
set_option linter.unusedSimpArgs false
section
variable {c g n cap : Nat} {ss0 : List ByteArray} {w0 : World}
set_option maxRecDepth 100000 in
set_option maxHeartbeats 4000000 in
theorem revS (HC : Hid (SCx c g n cap ss0 w0)) {W : World} (hS : Srd g n cap ss0 w0 W) (a b : Nat) (hab : a < b) (hb : b ≤ n) :
    Calls Tryz.prog 181 #[.slice (some ⟨g, 0, none⟩) n cap, .int .i64 (a : Int), .int .i64 (b : Int), .func (.func 102) #[.pointer (some ⟨c, 0, none⟩)] #[]] W fun e W' => e = .returned (.tuple #[]) ∧ Srd g n cap ss0 w0 W' := by
  have hn4 := HC.out.n4
  have HS := Lib.hid hS
  clear hS
  obtain ⟨b1, hb1⟩ : ∃ q : Nat, q = b - 1 := ⟨_, rfl⟩
  have H_b1 := Lib.hid hb1
  have e_b1 : (b : Int) - 1 = (b1 : Int) := by omega
  have w_b1 : IntKind.i64.wrap (b1 : Int) = (b1 : Int) := IntWalk.i64_in _ (by omega)
  have l_b1 : b1 < n := by omega
  have k_b1 : (b1 : Int) < (n : Int) := by omega
  clear hb1
  go_enter Tryz.func181, Tryz.ntmps181
  go_wp2_with fail
  go_loopw [8, 9] (fun iv jv wr => ∃ i j : Nat, j < b ∧ iv = .int .i64 (i : Int) ∧ jv = .int .i64 (j : Int) ∧ i ≤ b ∧ Srd g n cap ss0 w0 wr) (fun iv jv _ => (intOf jv - intOf iv).toNat)
  case atStart => exact ⟨a, b1, by have := H_b1.out; omega, rfl, rfl, by omega, HS.out⟩
  case round =>
    clear HS
    obtain ⟨i, j, hjb, rfl, rfl, hib, hs⟩ := hrel
    by_cases hij : i < j
    · have hin : i < n := by omega
      have hjn : j < n := by omega
      have q1 : (i : Int) < (n : Int) := by omega
      have q2 : (j : Int) < (n : Int) := by omega
      obtain ⟨jp, hjp⟩ : ∃ q : Nat, q = j - 1 := ⟨_, rfl⟩
      have H_jp := Lib.hid hjp
      have e_jp : (j : Int) - 1 = (jp : Int) := by omega
      have w_jp : IntKind.i64.wrap (jp : Int) = (jp : Int) := IntWalk.i64_in _ (by omega)
      have l_jp : jp < n := by omega
      have k_jp : (jp : Int) < (n : Int) := by omega
      clear hjp
      have q3 : (i : Int) < (j : Int) := by omega
      go_wp2_with fail
      obtain ⟨ssA, hpA, hrA, hmA⟩ := hs
      obtain ⟨xA, hxA⟩ : ∃ x, ssA[i]? = some x := ⟨_, List.getElem?_eq_getElem (by rw [Srt.len hrA]; omega)⟩
      obtain ⟨yA, hyA⟩ : ∃ x, ssA[j]? = some x := ⟨_, List.getElem?_eq_getElem (by rw [Srt.len hrA]; omega)⟩
      have hSA : wr.drew.cell? ⟨g, i, none⟩ = some (.string xA) ∧ wr.drew.cell? ⟨g, j, none⟩ = some (.string yA) := ⟨Srt.cell hrA hxA, Srt.cell hrA hyA⟩
      have HPA := Lib.hid hpA
      have HRA := Lib.hid hrA
      have HMA := Lib.hid hmA
      have HXA := Lib.hid hxA
      have HYA := Lib.hid hyA
      clear hpA hrA hmA hxA hyA
      refine wp_region_plan [13, 15] [(0, 0), (1, 0), (2, 0), (3, 0), (4, 0), (5, 0), (6, 0), (7, 1), (8, 0), (9, 0), (10, 0), (11, 1), (12, 0), (13, 3), (14, 0), (15, 3)] (fun w' : World => w'.cell? ⟨g, i, none⟩ = some (.string xA) ∧ w'.cell? ⟨g, j, none⟩ = some (.string yA)) (by kernel_rfl) (by kernel_rfl) (fun d v c a w h => by first | (cases d <;> exact h) | exact HP d v c a w h) ?_
      repeat ((first | refine plan_skip rfl rfl ?_ | refine plan_pass2 rfl rfl ?_ | refine plan_pass3 rfl rfl ?_ | (refine plan_take (v := ?_) rfl rfl ?_ ?_; rotate_left; focus (intro w0; go_simp; try with_reducible rfl)) | (refine plan_held (v := ?_) rfl rfl hSA ?_ ?_; rotate_left; focus (intro w0 hSw; (try dsimp only at hSw); go_split_ands; go_simp; try with_reducible rfl)) | refine plan_skip1 rfl rfl hSA ?_); simp only [List.getElem_toArray, List.getElem_cons_succ, List.getElem_cons_zero, Act.put, List.setIfInBounds_toArray, List.set_cons_zero, List.set_cons_succ])
      (refine plan_end rfl rfl rfl fun K hK => ?_; (try simp only [List.getElem_toArray, List.getElem_cons_succ, List.getElem_cons_zero]))
      refine wp_store_row1 9 _ _ rfl (Row.drew HRA.out) g (i) (.string yA) rfl rfl rfl (by rw [Srt.len' HRA.out]; omega) sSz rfl ?_
      intro W3 HR3 HM3
      refine hK _ _ ?_
      clear hK K hSA
      try simp only [List.getElem_toArray, List.getElem_cons_succ, List.getElem_cons_zero, Act.put, List.setIfInBounds_toArray, List.set_cons_zero, List.set_cons_succ]
      repeat ((first | refine plan_skip rfl rfl ?_ | refine plan_pass2 rfl rfl ?_ | refine plan_pass3 rfl rfl ?_ | (refine plan_take (v := ?_) rfl rfl ?_ ?_; rotate_left; focus (intro w0; go_simp; try with_reducible rfl))); simp only [List.getElem_toArray, List.getElem_cons_succ, List.getElem_cons_zero, Act.put, List.setIfInBounds_toArray, List.set_cons_zero, List.set_cons_succ])
      (refine plan_end rfl rfl rfl fun K hK => ?_; (try simp only [List.getElem_toArray, List.getElem_cons_succ, List.getElem_cons_zero]))
      refine wp_store_row1 9 _ _ rfl HR3.out g (j) (.string xA) rfl rfl rfl (by rw [List.length_set, Srt.len' HRA.out]; omega) sSz rfl ?_
      intro W4 HR4 HM4
      refine hK _ _ ?_
      clear hK K
      try simp only [List.getElem_toArray, List.getElem_cons_succ, List.getElem_cons_zero, Act.put, List.setIfInBounds_toArray, List.set_cons_zero, List.set_cons_succ]
      refine plan_nil ?_
      have hs4 : Srd g n cap ss0 w0 W4 := Srt.swap HPA.out HRA.out HMA.out HXA.out HYA.out HR4.out (((Mod.refl _ _).drew.trans HM3.out fun q hq => .inl hq).trans HM4.out fun q hq => .inl hq)
      clear HPA HRA HMA HXA HYA HR3 HM3 HR4 HM4
      have HS4 := Lib.hid hs4
      clear hs4
      go_wp2
      go_roundw
      case rel => exact ⟨i + 1, jp, by have := H_jp.out; omega, by go_num, rfl, by omega, HS4.out⟩
      case measure => have := H_jp.out; simp [intOf]; omega
    · have q3 : ¬ (i : Int) < (j : Int) := by omega
      have HS4 := Lib.hid hs
      clear hs
      go_wp2
      go_end0
      exact ⟨rfl, HS4.out⟩
end
section
variable {c g n cap : Nat} {ss0 : List ByteArray} {w0 : World}
set_option maxRecDepth 100000 in
set_option maxHeartbeats 4000000 in
theorem peqS (HC : Hid (SCx c g n cap ss0 w0)) {W : World} (hS : Srd g n cap ss0 w0 W) (a b p : Nat) (hab : a < b) (hb : b ≤ n) (hp : a ≤ p) (hpb : p < b) :
    Calls Tryz.prog 183 #[.slice (some ⟨g, 0, none⟩) n cap, .int .i64 (a : Int), .int .i64 (b : Int), .int .i64 (p : Int), .func (.func 102) #[.pointer (some ⟨c, 0, none⟩)] #[]] W fun e W' => ∃ m : Nat, a < m ∧ m ≤ b ∧ e = .returned (.int .i64 (m : Int)) ∧ Srd g n cap ss0 w0 W' := by
  have hn4 := HC.out.n4
  have HS0 := Lib.hid hS
  clear hS
  have han : a < n := by omega
  have hpn : p < n := by omega
  have qa : (a : Int) < (n : Int) := by omega
  have qp : (p : Int) < (n : Int) := by omega
  obtain ⟨a1, ha1⟩ : ∃ q : Nat, q = a + 1 := ⟨_, rfl⟩
  have H_a1 := Lib.hid ha1
  have e_a1 : (a : Int) + 1 = (a1 : Int) := by omega
  have w_a1 : IntKind.i64.wrap (a1 : Int) = (a1 : Int) := IntWalk.i64_in _ (by omega)
  clear ha1
  obtain ⟨b1, hb1⟩ : ∃ q : Nat, q = b - 1 := ⟨_, rfl⟩
  have H_b1 := Lib.hid hb1
  have e_b1 : (b : Int) - 1 = (b1 : Int) := by omega
  have w_b1 : IntKind.i64.wrap (b1 : Int) = (b1 : Int) := IntWalk.i64_in _ (by omega)
  have l_b1 : b1 < n := by omega
  have k_b1 : (b1 : Int) < (n : Int) := by omega
  clear hb1
  have ha1 : a1 ≤ a + 1 ∧ a + 1 ≤ a1 := by have := H_a1.out; omega
  have hb1 : b1 + 1 ≤ b ∧ b ≤ b1 + 1 := by have := H_b1.out; omega
  go_enter Tryz.func183, Tryz.ntmps183
  go_wp2_with fail
  have hs := HS0.out
  clear HS0
  obtain ⟨ssA, hpA, hrA, hmA⟩ := hs
  obtain ⟨xA, hxA⟩ : ∃ x, ssA[a]? = some x := ⟨_, List.getElem?_eq_getElem (by rw [Srt.len hrA]; omega)⟩
  obtain ⟨yA, hyA⟩ : ∃ x, ssA[p]? = some x := ⟨_, List.getElem?_eq_getElem (by rw [Srt.len hrA]; omega)⟩
  have hSA : W.drew.cell? ⟨g, a, none⟩ = some (.string xA) ∧ W.drew.cell? ⟨g, p, none⟩ = some (.string yA) := ⟨Srt.cell hrA hxA, Srt.cell hrA hyA⟩
  have HPA := Lib.hid hpA
  have HRA := Lib.hid hrA
  have HMA := Lib.hid hmA
  have HXA := Lib.hid hxA
  have HYA := Lib.hid hyA
  clear hpA hrA hmA hxA hyA
  refine wp_region_plan [13, 15] [(0, 0), (1, 0), (2, 0), (3, 0), (4, 0), (5, 0), (6, 0), (7, 1), (8, 0), (9, 0), (10, 0), (11, 1), (12, 0), (13, 3), (14, 0), (15, 3)] (fun w' : World => w'.cell? ⟨g, a, none⟩ = some (.string xA) ∧ w'.cell? ⟨g, p, none⟩ = some (.string yA)) (by kernel_rfl) (by kernel_rfl) (fun d v c a w h => by first | (cases d <;> exact h) | exact HP d v c a w h) ?_
  repeat ((first | refine plan_skip rfl rfl ?_ | refine plan_pass2 rfl rfl ?_ | refine plan_pass3 rfl rfl ?_ | (refine plan_take (v := ?_) rfl rfl ?_ ?_; rotate_left; focus (intro w0; go_simp; try with_reducible rfl)) | (refine plan_held (v := ?_) rfl rfl hSA ?_ ?_; rotate_left; focus (intro w0 hSw; (try dsimp only at hSw); go_split_ands; go_simp; try with_reducible rfl)) | refine plan_skip1 rfl rfl hSA ?_); simp only [List.getElem_toArray, List.getElem_cons_succ, List.getElem_cons_zero, Act.put, List.setIfInBounds_toArray, List.set_cons_zero, List.set_cons_succ])
  (refine plan_end rfl rfl rfl fun K hK => ?_; (try simp only [List.getElem_toArray, List.getElem_cons_succ, List.getElem_cons_zero]))
  refine wp_store_row1 9 _ _ rfl (Row.drew HRA.out) g (a) (.string yA) rfl rfl rfl (by rw [Srt.len' HRA.out]; omega) sSz rfl ?_
  intro W3 HR3 HM3
  refine hK _ _ ?_
  clear hK K hSA
  try simp only [List.getElem_toArray, List.getElem_cons_succ, List.getElem_cons_zero, Act.put, List.setIfInBounds_toArray, List.set_cons_zero, List.set_cons_succ]
  repeat ((first | refine plan_skip rfl rfl ?_ | refine plan_pass2 rfl rfl ?_ | refine plan_pass3 rfl rfl ?_ | (refine plan_take (v := ?_) rfl rfl ?_ ?_; rotate_left; focus (intro w0; go_simp; try with_reducible rfl))); simp only [List.getElem_toArray, List.getElem_cons_succ, List.getElem_cons_zero, Act.put, List.setIfInBounds_toArray, List.set_cons_zero, List.set_cons_succ])
  (refine plan_end rfl rfl rfl fun K hK => ?_; (try simp only [List.getElem_toArray, List.getElem_cons_succ, List.getElem_cons_zero]))
  refine wp_store_row1 9 _ _ rfl HR3.out g (p) (.string xA) rfl rfl rfl (by rw [List.length_set, Srt.len' HRA.out]; omega) sSz rfl ?_
  intro W1 HR4 HM4
  refine hK _ _ ?_
  clear hK K
  try simp only [List.getElem_toArray, List.getElem_cons_succ, List.getElem_cons_zero, Act.put, List.setIfInBounds_toArray, List.set_cons_zero, List.set_cons_succ]
  refine plan_nil ?_
  have hs1 : Srd g n cap ss0 w0 W1 := Srt.swap HPA.out HRA.out HMA.out HXA.out HYA.out HR4.out (((Mod.refl _ _).drew.trans HM3.out fun q hq => .inl hq).trans HM4.out fun q hq => .inl hq)
  clear HPA HRA HMA HXA HYA HR3 HM3 HR4 HM4
  have HS1 := Lib.hid hs1
  clear hs1
  go_wp2_with fail
  go_loopw [11, 12] (fun iv jv wr => ∃ i0 j0 : Nat, a + 1 ≤ i0 ∧ i0 ≤ b ∧ a ≤ j0 ∧ j0 < b ∧ iv = .int .i64 (i0 : Int) ∧ jv = .int .i64 (j0 : Int) ∧ Srd g n cap ss0 w0 wr) (fun iv jv _ => (intOf jv + 1 - intOf iv).toNat)
  case atStart => exact ⟨a1, b1, by omega, by omega, by omega, by omega, rfl, rfl, HS1.out⟩
  case round =>
    clear HS1
    obtain ⟨i0, j0, hi1, hi2, hj1, hj2, rfl, rfl, hs⟩ := hrel
    have HSI := Lib.hid hs
    clear hs
    go_upto_block 2 with fail
    go_cut [11] from 31 to 50 (fun iv wx => ∃ i : Nat, i0 ≤ i ∧ i ≤ b ∧ iv = .int .i64 (i : Int) ∧ Srd g n cap ss0 w0 wx)
    case first =>
      go_wp2_with fail
      go_loopw [11] (fun iv wr => ∃ i : Nat, i0 ≤ i ∧ i ≤ b ∧ iv = .int .i64 (i : Int) ∧ Srd g n cap ss0 w0 wr) (fun iv _ => b + 1 - (intOf iv).toNat)
      case atStart => exact ⟨i0, by omega, by omega, rfl, HSI.out⟩
      case round =>
        clear HSI
        obtain ⟨i, hv1, hv2, rfl, hs⟩ := hrel
        by_cases hij : i ≤ j0
        · have q3 : (i : Int) ≤ (j0 : Int) := by omega
          have q4 : decide ((i : Int) ≤ (j0 : Int)) = true := decide_eq_true q3
          have hvn : i < n := by omega
          have q5 : (i : Int) < (n : Int) := by omega
          go_wp2_with fail
          obtain ⟨ssA, hpA, hrA, hmA⟩ := hs
          obtain ⟨xA, hxA⟩ : ∃ x, ssA[a]? = some x := ⟨_, List.getElem?_eq_getElem (by rw [Srt.len hrA]; omega)⟩
          obtain ⟨yA, hyA⟩ : ∃ x, ssA[i]? = some x := ⟨_, List.getElem?_eq_getElem (by rw [Srt.len hrA]; omega)⟩
          have hSA : wr.drew.cell? ⟨g, a, none⟩ = some (.string xA) ∧ wr.drew.cell? ⟨g, i, none⟩ = some (.string yA) := ⟨Srt.cell hrA hxA, Srt.cell hrA hyA⟩
          have hcA := HC.out.cmp wr.drew xA yA hmA.drew (hpA.mem_iff.1 (List.mem_of_getElem? hxA)) (hpA.mem_iff.1 (List.mem_of_getElem? hyA))
          have HSA := Lib.hid (Srt.mk' hpA hrA hmA)
          have HCA := Lib.hid hcA
          clear hpA hrA hmA hxA hyA hcA
          refine wp_region_plan [13] [(0, 0), (1, 0), (2, 0), (3, 0), (4, 0), (5, 0), (6, 0), (7, 0), (8, 1), (9, 0), (10, 0), (11, 0), (12, 1), (13, 3), (14, 0), (15, 0), (16, 0)] (fun w' : World => w'.cell? ⟨g, a, none⟩ = some (.string xA) ∧ w'.cell? ⟨g, i, none⟩ = some (.string yA)) (by kernel_rfl) (by kernel_rfl) (fun d v c a w h => by first | (cases d <;> exact h) | exact HP d v c a w h) ?_
          repeat ((first | refine plan_skip rfl rfl ?_ | refine plan_pass2 rfl rfl ?_ | refine plan_pass3 rfl rfl ?_ | (refine plan_take (v := ?_) rfl rfl ?_ ?_; rotate_left; focus (intro w0; go_simp; try with_reducible rfl)) | (refine plan_held (v := ?_) rfl rfl hSA ?_ ?_; rotate_left; focus (intro w0 hSw; (try dsimp only at hSw); go_split_ands; go_simp; try with_reducible rfl)) | refine plan_skip1 rfl rfl hSA ?_); simp only [List.getElem_toArray, List.getElem_cons_succ, List.getElem_cons_zero, Act.put, List.setIfInBounds_toArray, List.set_cons_zero, List.set_cons_succ])
          (refine plan_end rfl rfl rfl fun K hK => ?_; (try simp only [List.getElem_toArray, List.getElem_cons_succ, List.getElem_cons_zero]))
          go_simp
          refine HCA.out.mono ?_
          rintro e W2 ⟨⟨rA, rfl⟩, hmA⟩
          have hs2 : Srd g n cap ss0 w0 W2 := HSA.out.calm ((Mod.refl _ _).drew.trans hmA fun _ f => f.elim)
          refine hK _ _ ?_
          clear hK K hSA HSA HCA hmA
          try simp only [List.getElem_toArray, List.getElem_cons_succ, List.getElem_cons_zero, Act.put, List.setIfInBounds_toArray, List.set_cons_zero, List.set_cons_succ]
          by_cases hr : rA < 0
          · have hd : decide (rA < 0) = true := decide_eq_true hr
            repeat ((first | refine plan_skip rfl rfl ?_ | refine plan_pass2 rfl rfl ?_ | refine plan_pass3 rfl rfl ?_ | (refine plan_take (v := ?_) rfl rfl ?_ ?_; rotate_left; focus (intro w0; go_simp; try with_reducible rfl))); simp only [List.getElem_toArray, List.getElem_cons_succ, List.getElem_cons_zero, Act.put, List.setIfInBounds_toArray, List.set_cons_zero, List.set_cons_succ])
            refine plan_nil ?_
            have HS2 := Lib.hid hs2
            clear hs2
            go_wp2_with fail
            go_meet
            exact ⟨i, hv1, hv2, rfl, HS2.out⟩
          · have hd : decide (rA < 0) = false := decide_eq_false hr
            repeat ((first | refine plan_skip rfl rfl ?_ | refine plan_pass2 rfl rfl ?_ | refine plan_pass3 rfl rfl ?_ | (refine plan_take (v := ?_) rfl rfl ?_ ?_; rotate_left; focus (intro w0; go_simp; try with_reducible rfl))); simp only [List.getElem_toArray, List.getElem_cons_succ, List.getElem_cons_zero, Act.put, List.setIfInBounds_toArray, List.set_cons_zero, List.set_cons_succ])
            refine plan_nil ?_
            have HS2 := Lib.hid hs2
            clear hs2
            go_wp2
            go_roundw
            case rel => exact ⟨i + 1, by omega, by omega, by go_num, HS2.out⟩
            case measure => simp [intOf]; omega
        · have q3 : ¬ (i : Int) ≤ (j0 : Int) := by omega
          have q4 : decide ((i : Int) ≤ (j0 : Int)) = false := decide_eq_false q3
          have HS2 := Lib.hid hs.drew
          clear hs
          go_wp2_with fail
          refine wp_region_plan [13] [(0, 0), (1, 0), (2, 0), (3, 0), (4, 0), (5, 0), (6, 0), (7, 0), (8, 1), (9, 0), (10, 0), (11, 0), (12, 1), (13, 3), (14, 0), (15, 0), (16, 0)] (fun w' : World => True) (by kernel_rfl) (by kernel_rfl) (fun d v c a w h => by first | (cases d <;> exact h) | exact HP d v c a w h) ?_
          repeat ((first | refine plan_skip rfl rfl ?_ | refine plan_pass2 rfl rfl ?_ | refine plan_pass3 rfl rfl ?_ | (refine plan_take (v := ?_) rfl rfl ?_ ?_; rotate_left; focus (intro w0; go_simp; try with_reducible rfl)) | (refine plan_held (v := ?_) rfl rfl trivial ?_ ?_; rotate_left; focus (intro w0 hSw; (try dsimp only at hSw); go_split_ands; go_simp; try with_reducible rfl)) | refine plan_skip1 rfl rfl trivial ?_); simp only [List.getElem_toArray, List.getElem_cons_succ, List.getElem_cons_zero, Act.put, List.setIfInBounds_toArray, List.set_cons_zero, List.set_cons_succ])
          refine plan_nil ?_
          go_wp2_with fail
          go_meet
          exact ⟨i, hv1, hv2, rfl, HS2.out⟩
    case rest =>
      rename World => wx
      clear HSI
      obtain ⟨i, hv1, hv2, rfl, hs⟩ := hcut
      have HSJ := Lib.hid hs
      clear hs
      go_upto_block 4 with fail
      go_cut [12] from 50 to 68 (fun iv wx => ∃ j : Nat, a ≤ j ∧ j ≤ j0 ∧ iv = .int .i64 (j : Int) ∧ Srd g n cap ss0 w0 wx)
      case first =>
        go_wp2_with fail
        go_loopw [12] (fun iv wr => ∃ j : Nat, a ≤ j ∧ j ≤ j0 ∧ iv = .int .i64 (j : Int) ∧ Srd g n cap ss0 w0 wr) (fun iv _ => (intOf iv).toNat)
        case atStart => exact ⟨j0, by omega, by omega, rfl, HSJ.out⟩
        case round =>
          clear HSJ
          obtain ⟨j, hw1, hw2, rfl, hs⟩ := hrel
          by_cases hij : i ≤ j
          · have q3 : (i : Int) ≤ (j : Int) := by omega
            have q4 : decide ((i : Int) ≤ (j : Int)) = true := decide_eq_true q3
            have hvn : j < n := by omega
            have q5 : (j : Int) < (n : Int) := by omega
            obtain ⟨jp, hjp⟩ : ∃ q : Nat, q = j - 1 := ⟨_, rfl⟩
            have H_jp := Lib.hid hjp
            have e_jp : (j : Int) - 1 = (jp : Int) := by omega
            have w_jp : IntKind.i64.wrap (jp : Int) = (jp : Int) := IntWalk.i64_in _ (by omega)
            have l_jp : jp < n := by omega
            have k_jp : (jp : Int) < (n : Int) := by omega
            clear hjp
            go_wp2_with fail
            obtain ⟨ssA, hpA, hrA, hmA⟩ := hs
            obtain ⟨xA, hxA⟩ : ∃ x, ssA[a]? = some x := ⟨_, List.getElem?_eq_getElem (by rw [Srt.len hrA]; omega)⟩
            obtain ⟨yA, hyA⟩ : ∃ x, ssA[j]? = some x := ⟨_, List.getElem?_eq_getElem (by rw [Srt.len hrA]; omega)⟩
            have hSA : wr.drew.cell? ⟨g, a, none⟩ = some (.string xA) ∧ wr.drew.cell? ⟨g, j, none⟩ = some (.string yA) := ⟨Srt.cell hrA hxA, Srt.cell hrA hyA⟩
            have hcA := HC.out.cmp wr.drew xA yA hmA.drew (hpA.mem_iff.1 (List.mem_of_getElem? hxA)) (hpA.mem_iff.1 (List.mem_of_getElem? hyA))
            have HSA := Lib.hid (Srt.mk' hpA hrA hmA)
            have HCA := Lib.hid hcA
            clear hpA hrA hmA hxA hyA hcA
            refine wp_region_plan [13] [(0, 0), (1, 0), (2, 0), (3, 0), (4, 0), (5, 0), (6, 0), (7, 0), (8, 1), (9, 0), (10, 0), (11, 0), (12, 1), (13, 3), (14, 0), (15, 0)] (fun w' : World => w'.cell? ⟨g, a, none⟩ = some (.string xA) ∧ w'.cell? ⟨g, j, none⟩ = some (.string yA)) (by kernel_rfl) (by kernel_rfl) (fun d v c a w h => by first | (cases d <;> exact h) | exact HP d v c a w h) ?_
            repeat ((first | refine plan_skip rfl rfl ?_ | refine plan_pass2 rfl rfl ?_ | refine plan_pass3 rfl rfl ?_ | (refine plan_take (v := ?_) rfl rfl ?_ ?_; rotate_left; focus (intro w0; go_simp; try with_reducible rfl)) | (refine plan_held (v := ?_) rfl rfl hSA ?_ ?_; rotate_left; focus (intro w0 hSw; (try dsimp only at hSw); go_split_ands; go_simp; try with_reducible rfl)) | refine plan_skip1 rfl rfl hSA ?_); simp only [List.getElem_toArray, List.getElem_cons_succ, List.getElem_cons_zero, Act.put, List.setIfInBounds_toArray, List.set_cons_zero, List.set_cons_succ])
            (refine plan_end rfl rfl rfl fun K hK => ?_; (try simp only [List.getElem_toArray, List.getElem_cons_succ, List.getElem_cons_zero]))
            go_simp
            refine HCA.out.mono ?_
            rintro e W2 ⟨⟨rA, rfl⟩, hmA⟩
            have hs2 : Srd g n cap ss0 w0 W2 := HSA.out.calm ((Mod.refl _ _).drew.trans hmA fun _ f => f.elim)
            refine hK _ _ ?_
            clear hK K hSA HSA HCA hmA
            try simp only [List.getElem_toArray, List.getElem_cons_succ, List.getElem_cons_zero, Act.put, List.setIfInBounds_toArray, List.set_cons_zero, List.set_cons_succ]
            by_cases hr : rA < 0
            · have hd : decide (rA < 0) = true := decide_eq_true hr
              repeat ((first | refine plan_skip rfl rfl ?_ | refine plan_pass2 rfl rfl ?_ | refine plan_pass3 rfl rfl ?_ | (refine plan_take (v := ?_) rfl rfl ?_ ?_; rotate_left; focus (intro w0; go_simp; try with_reducible rfl))); simp only [List.getElem_toArray, List.getElem_cons_succ, List.getElem_cons_zero, Act.put, List.setIfInBounds_toArray, List.set_cons_zero, List.set_cons_succ])
              refine plan_nil ?_
              have HS2 := Lib.hid hs2
              clear hs2
              go_wp2
              go_roundw
              case rel => exact ⟨jp, by have := H_jp.out; omega, by have := H_jp.out; omega, by go_num, HS2.out⟩
              case measure => have := H_jp.out; simp [intOf]; omega
            · have hd : decide (rA < 0) = false := decide_eq_false hr
              repeat ((first | refine plan_skip rfl rfl ?_ | refine plan_pass2 rfl rfl ?_ | refine plan_pass3 rfl rfl ?_ | (refine plan_take (v := ?_) rfl rfl ?_ ?_; rotate_left; focus (intro w0; go_simp; try with_reducible rfl))); simp only [List.getElem_toArray, List.getElem_cons_succ, List.getElem_cons_zero, Act.put, List.setIfInBounds_toArray, List.set_cons_zero, List.set_cons_succ])
              refine plan_nil ?_
              have HS2 := Lib.hid hs2
              clear hs2
              go_wp2_with fail
              go_meet
              exact ⟨j, hw1, hw2, rfl, HS2.out⟩
          · have q3 : ¬ (i : Int) ≤ (j : Int) := by omega
            have q4 : decide ((i : Int) ≤ (j : Int)) = false := decide_eq_false q3
            have HS2 := Lib.hid hs.drew
            clear hs
            go_wp2_with fail
            refine wp_region_plan [13] [(0, 0), (1, 0), (2, 0), (3, 0), (4, 0), (5, 0), (6, 0), (7, 0), (8, 1), (9, 0), (10, 0), (11, 0), (12, 1), (13, 3), (14, 0), (15, 0)] (fun w' : World => True) (by kernel_rfl) (by kernel_rfl) (fun d v c a w h => by first | (cases d <;> exact h) | exact HP d v c a w h) ?_
            repeat ((first | refine plan_skip rfl rfl ?_ | refine plan_pass2 rfl rfl ?_ | refine plan_pass3 rfl rfl ?_ | (refine plan_take (v := ?_) rfl rfl ?_ ?_; rotate_left; focus (intro w0; go_simp; try with_reducible rfl)) | (refine plan_held (v := ?_) rfl rfl trivial ?_ ?_; rotate_left; focus (intro w0 hSw; (try dsimp only at hSw); go_split_ands; go_simp; try with_reducible rfl)) | refine plan_skip1 rfl rfl trivial ?_); simp only [List.getElem_toArray, List.getElem_cons_succ, List.getElem_cons_zero, Act.put, List.setIfInBounds_toArray, List.set_cons_zero, List.set_cons_succ])
            refine plan_nil ?_
            go_wp2_with fail
            go_meet
            exact ⟨j, hw1, hw2, rfl, HS2.out⟩
      case rest =>
        rename World => wx
        clear HSJ
        obtain ⟨j, hw1, hw2, rfl, hs⟩ := hcut
        have HSK := Lib.hid hs
        clear hs
        by_cases hji : j < i
        · have q6 : (i : Int) > (j : Int) := by omega
          go_wp2
          go_ret
          exact ⟨i, by omega, by omega, rfl, HSK.out⟩
        · have q6 : ¬ (i : Int) > (j : Int) := by omega
          have hin : i < n := by omega
          have hjn : j < n := by omega
          have q7 : (i : Int) < (n : Int) := by omega
          have q8 : (j : Int) < (n : Int) := by omega
          obtain ⟨jq, hjq⟩ : ∃ q : Nat, q = j - 1 := ⟨_, rfl⟩
          have H_jq := Lib.hid hjq
          have e_jq : (j : Int) - 1 = (jq : Int) := by omega
          have w_jq : IntKind.i64.wrap (jq : Int) = (jq : Int) := IntWalk.i64_in _ (by omega)
          have l_jq : jq < n := by omega
          have k_jq : (jq : Int) < (n : Int) := by omega
          clear hjq
          have hs := HSK.out
          clear HSK
          go_wp2_with fail
          obtain ⟨ssA, hpA, hrA, hmA⟩ := hs
          obtain ⟨xA, hxA⟩ : ∃ x, ssA[i]? = some x := ⟨_, List.getElem?_eq_getElem (by rw [Srt.len hrA]; omega)⟩
          obtain ⟨yA, hyA⟩ : ∃ x, ssA[j]? = some x := ⟨_, List.getElem?_eq_getElem (by rw [Srt.len hrA]; omega)⟩
          have hSA : wx.drew.cell? ⟨g, i, none⟩ = some (.string xA) ∧ wx.drew.cell? ⟨g, j, none⟩ = some (.string yA) := ⟨Srt.cell hrA hxA, Srt.cell hrA hyA⟩
          have HPA := Lib.hid hpA
          have HRA := Lib.hid hrA
          have HMA := Lib.hid hmA
          have HXA := Lib.hid hxA
          have HYA := Lib.hid hyA
          clear hpA hrA hmA hxA hyA
          refine wp_region_plan [13, 15] [(0, 0), (1, 0), (2, 0), (3, 0), (4, 0), (5, 0), (6, 0), (7, 1), (8, 0), (9, 0), (10, 0), (11, 1), (12, 0), (13, 3), (14, 0), (15, 3)] (fun w' : World => w'.cell? ⟨g, i, none⟩ = some (.string xA) ∧ w'.cell? ⟨g, j, none⟩ = some (.string yA)) (by kernel_rfl) (by kernel_rfl) (fun d v c a w h => by first | (cases d <;> exact h) | exact HP d v c a w h) ?_
          repeat ((first | refine plan_skip rfl rfl ?_ | refine plan_pass2 rfl rfl ?_ | refine plan_pass3 rfl rfl ?_ | (refine plan_take (v := ?_) rfl rfl ?_ ?_; rotate_left; focus (intro w0; go_simp; try with_reducible rfl)) | (refine plan_held (v := ?_) rfl rfl hSA ?_ ?_; rotate_left; focus (intro w0 hSw; (try dsimp only at hSw); go_split_ands; go_simp; try with_reducible rfl)) | refine plan_skip1 rfl rfl hSA ?_); simp only [List.getElem_toArray, List.getElem_cons_succ, List.getElem_cons_zero, Act.put, List.setIfInBounds_toArray, List.set_cons_zero, List.set_cons_succ])
          (refine plan_end rfl rfl rfl fun K hK => ?_; (try simp only [List.getElem_toArray, List.getElem_cons_succ, List.getElem_cons_zero]))
          refine wp_store_row1 9 _ _ rfl (Row.drew HRA.out) g (i) (.string yA) rfl rfl rfl (by rw [Srt.len' HRA.out]; omega) sSz rfl ?_
          intro W3 HR3 HM3
          refine hK _ _ ?_
          clear hK K hSA
          try simp only [List.getElem_toArray, List.getElem_cons_succ, List.getElem_cons_zero, Act.put, List.setIfInBounds_toArray, List.set_cons_zero, List.set_cons_succ]
          repeat ((first | refine plan_skip rfl rfl ?_ | refine plan_pass2 rfl rfl ?_ | refine plan_pass3 rfl rfl ?_ | (refine plan_take (v := ?_) rfl rfl ?_ ?_; rotate_left; focus (intro w0; go_simp; try with_reducible rfl))); simp only [List.getElem_toArray, List.getElem_cons_succ, List.getElem_cons_zero, Act.put, List.setIfInBounds_toArray, List.set_cons_zero, List.set_cons_succ])
          (refine plan_end rfl rfl rfl fun K hK => ?_; (try simp only [List.getElem_toArray, List.getElem_cons_succ, List.getElem_cons_zero]))
          refine wp_store_row1 9 _ _ rfl HR3.out g (j) (.string xA) rfl rfl rfl (by rw [List.length_set, Srt.len' HRA.out]; omega) sSz rfl ?_
          intro W4 HR4 HM4
          refine hK _ _ ?_
          clear hK K
          try simp only [List.getElem_toArray, List.getElem_cons_succ, List.getElem_cons_zero, Act.put, List.setIfInBounds_toArray, List.set_cons_zero, List.set_cons_succ]
          refine plan_nil ?_
          have hs4 : Srd g n cap ss0 w0 W4 := Srt.swap HPA.out HRA.out HMA.out HXA.out HYA.out HR4.out (((Mod.refl _ _).drew.trans HM3.out fun q hq => .inl hq).trans HM4.out fun q hq => .inl hq)
          clear HPA HRA HMA HXA HYA HR3 HM3 HR4 HM4
          have HS4 := Lib.hid hs4
          clear hs4
          go_wp2
          go_roundw
          case rel => exact ⟨i + 1, jq, by omega, by omega, by have := H_jq.out; omega, by have := H_jq.out; omega, by go_num, rfl, HS4.out⟩
          case measure => have := H_jq.out; simp [intOf]; omega
end
end Go.Proofs.YtcccdlmngddalaaGreat
namespace Go.Proofs.YtcccdlmngddalaaGreat
open Go.RowKit
set_option linter.unusedVariables false
set_option linter.unusedSimpArgs false
theorem intSz : (Tryz.prog.info? 3).map (·.size) = some 1 := by kernel_rfl
theorem Srd.aside {g n cap : Nat} {ss0 : List ByteArray} {w0 W W' : World} {q : Nat} (h : Srd g n cap ss0 w0 W) (hm : Mod (fun k => k = q) W W') (hq : q ≠ g) (hq0 : w0.heap.size ≤ q) : Srd g n cap ss0 w0 W' := by
  obtain ⟨ss, h1, h2, h3⟩ := h
  have h2' : Row W (fun k => k = g) 9 1 (.slice (some ⟨g, 0, none⟩) n cap) n (ss.map Value.string) := ⟨h2.1, fun k hk => by
    have e' : some g = some k := hk
    injection e' with e'
    exact e'.symm⟩
  exact ⟨ss, h1, (h2'.keep hm fun k hk e => hq (by omega)).mono fun _ _ => trivial, h3.trans hm fun k hk => .inr (by omega)⟩
section
variable {c g n cap : Nat} {ss0 : List ByteArray} {w0 : World}
set_option maxRecDepth 100000 in
set_option maxHeartbeats 4000000 in
theorem o2S (HC : Hid (SCx c g n cap ss0 w0)) {W : World} (hS : Srd g n cap ss0 w0 W) (a b q : Nat) (k : Int) (ha : a < n) (hb : b < n) (hB : Blk W q 3 [.int .i64 k]) (hk : 0 ≤ k ∧ k ≤ 1000) (hq : q ≠ g) (hq0 : w0.heap.size ≤ q) :
    Calls Tryz.prog 202 #[.slice (some ⟨g, 0, none⟩) n cap, .int .i64 (a : Int), .int .i64 (b : Int), .pointer (some ⟨q, 0, none⟩), .func (.func 102) #[.pointer (some ⟨c, 0, none⟩)] #[]] W fun e W' => ∃ x y : Nat, (x = a ∧ y = b ∨ x = b ∧ y = a) ∧ e = .returned (.tuple #[.int .i64 (x : Int), .int .i64 (y : Int)]) ∧ Srd g n cap ss0 w0 W' ∧ ∃ k' : Int, 0 ≤ k' ∧ k' ≤ k + 1 ∧ Blk W' q 3 [.int .i64 k'] := by
  have hn4 := HC.out.n4
  have HB := Lib.hid hB
  have HQ := Lib.hid (And.intro hq hq0)
  have qa : (a : Int) < (n : Int) := by omega
  have qb : (b : Int) < (n : Int) := by omega
  have ek : IntKind.i64.wrap (k + 1) = k + 1 := IntWalk.i64_in _ (by omega)
  have hs := hS
  clear hS hB hq hq0
  go_enter Tryz.func202, Tryz.ntmps202
  go_wp2_with fail
  obtain ⟨ssA, hpA, hrA, hmA⟩ := hs
  obtain ⟨xA, hxA⟩ : ∃ x, ssA[b]? = some x := ⟨_, List.getElem?_eq_getElem (by rw [Srt.len hrA]; omega)⟩
  obtain ⟨yA, hyA⟩ : ∃ x, ssA[a]? = some x := ⟨_, List.getElem?_eq_getElem (by rw [Srt.len hrA]; omega)⟩
  have hSA : W.drew.cell? ⟨g, b, none⟩ = some (.string xA) ∧ W.drew.cell? ⟨g, a, none⟩ = some (.string yA) := ⟨Srt.cell hrA hxA, Srt.cell hrA hyA⟩
  have hcA := HC.out.cmp W.drew xA yA hmA.drew (hpA.mem_iff.1 (List.mem_of_getElem? hxA)) (hpA.mem_iff.1 (List.mem_of_getElem? hyA))
  have HSA := Lib.hid (Srt.mk' hpA hrA hmA)
  have HCA := Lib.hid hcA
  clear hpA hrA hmA hxA hyA hcA
  refine wp_region_plan [9] [(0, 0), (1, 0), (2, 0), (3, 0), (4, 1), (5, 0), (6, 0), (7, 0), (8, 1), (9, 3), (10, 0)] (fun w' : World => w'.cell? ⟨g, b, none⟩ = some (.string xA) ∧ w'.cell? ⟨g, a, none⟩ = some (.string yA)) (by kernel_rfl) (by kernel_rfl) (fun d v c a w h => by first | (cases d <;> exact h) | exact HP d v c a w h) ?_
  repeat ((first | refine plan_skip rfl rfl ?_ | refine plan_pass2 rfl rfl ?_ | refine plan_pass3 rfl rfl ?_ | (refine plan_take (v := ?_) rfl rfl ?_ ?_; rotate_left; focus (intro w0; go_simp; try with_reducible rfl)) | (refine plan_held (v := ?_) rfl rfl hSA ?_ ?_; rotate_left; focus (intro w0 hSw; (try dsimp only at hSw); go_split_ands; go_simp; try with_reducible rfl)) | refine plan_skip1 rfl rfl hSA ?_); simp only [List.getElem_toArray, List.getElem_cons_succ, List.getElem_cons_zero, Act.put, List.setIfInBounds_toArray, List.set_cons_zero, List.set_cons_succ])
  (refine plan_end rfl rfl rfl fun K hK => ?_; (try simp only [List.getElem_toArray, List.getElem_cons_succ, List.getElem_cons_zero]))
  go_simp
  refine HCA.out.mono ?_
  rintro e W2 ⟨⟨rA, rfl⟩, hmA⟩
  have hs2 : Srd g n cap ss0 w0 W2 := HSA.out.calm ((Mod.refl _ _).drew.trans hmA fun _ f => f.elim)
  have HB2 : Hid (Blk W2 q 3 [.int .i64 k]) := Lib.hid (Blk.keep HB.out.drew hmA fun f => f)
  refine hK _ _ ?_
  clear hK K hSA HSA HCA hmA
  try simp only [List.getElem_toArray, List.getElem_cons_succ, List.getElem_cons_zero, Act.put, List.setIfInBounds_toArray, List.set_cons_zero, List.set_cons_succ]
  have HS2 := Lib.hid hs2
  clear hs2
  by_cases hr : rA < 0
  · have hd : decide (rA < 0) = true := decide_eq_true hr
    have c0 : W2.cell? ⟨q, 0, none⟩ = some (.int .i64 k) := HB2.out.cell rfl
    repeat ((first | refine plan_skip rfl rfl ?_ | refine plan_pass2 rfl rfl ?_ | refine plan_pass3 rfl rfl ?_ | (refine plan_take (v := ?_) rfl rfl ?_ ?_; rotate_left; focus (intro w0; go_simp; try with_reducible rfl))); simp only [List.getElem_toArray, List.getElem_cons_succ, List.getElem_cons_zero, Act.put, List.setIfInBounds_toArray, List.set_cons_zero, List.set_cons_succ])
    refine plan_nil ?_
    go_wp2_with (refine wpList_store_blk1 rfl 3 _ _ rfl q 0 3 _ (.int .i64 (k + 1)) rfl (by go_simp) HB2.out (by simp) intSz rfl ?_; intro W3 HB3 HM3)
    go_ret2
    exact ⟨b, a, .inr ⟨rfl, rfl⟩, rfl, HS2.out.aside HM3.out HQ.out.1 HQ.out.2, k + 1, by omega, by omega, HB3.out⟩
  · have hd : decide (rA < 0) = false := decide_eq_false hr
    repeat ((first | refine plan_skip rfl rfl ?_ | refine plan_pass2 rfl rfl ?_ | refine plan_pass3 rfl rfl ?_ | (refine plan_take (v := ?_) rfl rfl ?_ ?_; rotate_left; focus (intro w0; go_simp; try with_reducible rfl))); simp only [List.getElem_toArray, List.getElem_cons_succ, List.getElem_cons_zero, Act.put, List.setIfInBounds_toArray, List.set_cons_zero, List.set_cons_succ])
    refine plan_nil ?_
    go_wp2
    go_ret2
    exact ⟨a, b, .inl ⟨rfl, rfl⟩, rfl, HS2.out, k, by omega, by omega, HB2.out⟩
end
section
variable {c g n cap : Nat} {ss0 : List ByteArray} {w0 : World}
set_option maxRecDepth 100000 in
set_option maxHeartbeats 4000000 in
theorem medS (HC : Hid (SCx c g n cap ss0 w0)) {W : World} (hS : Srd g n cap ss0 w0 W) (a b d q : Nat) (k : Int) (ha : a < n) (hb : b < n) (hd : d < n) (hB : Blk W q 3 [.int .i64 k]) (hk : 0 ≤ k ∧ k ≤ 900) (hq : q ≠ g) (hq0 : w0.heap.size ≤ q) :
    Calls Tryz.prog 198 #[.slice (some ⟨g, 0, none⟩) n cap, .int .i64 (a : Int), .int .i64 (b : Int), .int .i64 (d : Int), .pointer (some ⟨q, 0, none⟩), .func (.func 102) #[.pointer (some ⟨c, 0, none⟩)] #[]] W fun e W' => ∃ x : Nat, (x = a ∨ x = b ∨ x = d) ∧ e = .returned (.int .i64 (x : Int)) ∧ Srd g n cap ss0 w0 W' ∧ ∃ k' : Int, 0 ≤ k' ∧ k' ≤ k + 3 ∧ Blk W' q 3 [.int .i64 k'] := by
  have HQ := Lib.hid (And.intro hq hq0)
  have HB := Lib.hid hB
  have HS := Lib.hid hS
  clear hS hB hq hq0
  go_enter Tryz.func198, Tryz.ntmps198
  go_wp2_with fail
  refine (o2S HC HS.out a b q k ha hb HB.out (by omega) HQ.out.1 HQ.out.2).mono ?_
  rintro e W1 ⟨x1, y1, hxy1, rfl, hs1, k1, hk1, hk1', hb1⟩
  have HS1 := Lib.hid hs1
  have HB1 := Lib.hid hb1
  have HXY1 := Lib.hid hxy1
  have hx1n : x1 < n ∧ y1 < n := by omega
  clear hs1 hb1 hxy1 HS HB
  go_wp2_with fail
  refine (o2S HC HS1.out y1 d q k1 hx1n.2 hd HB1.out (by omega) HQ.out.1 HQ.out.2).mono ?_
  rintro e W2 ⟨x2, y2, hxy2, rfl, hs2, k2, hk2, hk2', hb2⟩
  have HS2 := Lib.hid hs2
  have HB2 := Lib.hid hb2
  have HXY2 := Lib.hid hxy2
  have hx2n : x2 < n ∧ y2 < n := by omega
  clear hs2 hb2 hxy2 HS1 HB1
  go_wp2_with fail
  refine (o2S HC HS2.out x1 x2 q k2 hx1n.1 hx2n.1 HB2.out (by omega) HQ.out.1 HQ.out.2).mono ?_
  rintro e W3 ⟨x3, y3, hxy3, rfl, hs3, k3, hk3, hk3', hb3⟩
  have HS3 := Lib.hid hs3
  have HB3 := Lib.hid hb3
  have HXY3 := Lib.hid hxy3
  clear hs3 hb3 hxy3 HS2 HB2
  go_wp2
  go_ret
  exact ⟨y3, by have := HXY1.out; have := HXY2.out; have := HXY3.out; omega, rfl, HS3.out, k3, hk3, by omega, HB3.out⟩
end
section
variable {c g n cap : Nat} {ss0 : List ByteArray} {w0 : World}
set_option maxRecDepth 100000 in
set_option maxHeartbeats 4000000 in
theorem pivS (HC : Hid (SCx c g n cap ss0 w0)) {W : World} (hS : Srd g n cap ss0 w0 W) (a b : Nat) (hab : a + 12 < b) (hb : b ≤ n) :
    Calls Tryz.prog 180 #[.slice (some ⟨g, 0, none⟩) n cap, .int .i64 (a : Int), .int .i64 (b : Int), .func (.func 102) #[.pointer (some ⟨c, 0, none⟩)] #[]] W fun e W' => ∃ (x : Nat) (h : Int), a ≤ x ∧ x < b ∧ e = .returned (.tuple #[.int .i64 (x : Int), .int .i64 h]) ∧ Srd g n cap ss0 w0 W' := by
  have hn4 := HC.out.n4
  obtain ⟨L, hL⟩ : ∃ q : Nat, q = b - a := ⟨_, rfl⟩
  have H_L := Lib.hid hL
  have e_L : (b : Int) - (a : Int) = (L : Int) := by omega
  have w_L : IntKind.i64.wrap (L : Int) = (L : Int) := IntWalk.i64_in _ (by omega)
  clear hL
  obtain ⟨q4, hq4⟩ : ∃ q : Nat, q = L / 4 := ⟨_, rfl⟩
  have H_q4 := Lib.hid hq4
  have w_q4 : IntKind.i64.wrap (q4 : Int) = (q4 : Int) := IntWalk.i64_in _ (by omega)
  clear hq4
  have e_q4 : ((L : Nat) : Int).tdiv 4 = (q4 : Int) := by rw [H_q4.out]; exact Int.ofNat_tdiv L 4 |>.symm
  have hq4 : 3 ≤ q4 ∧ 4 * q4 ≤ L := by have h1 := H_q4.out; have h2 := H_L.out; omega
  have hL : a + L ≤ b ∧ b ≤ a + L := by have h2 := H_L.out; omega
  obtain ⟨m2, hm2⟩ : ∃ q : Nat, q = q4 * 2 := ⟨_, rfl⟩
  have H_m2 := Lib.hid hm2
  have e_m2 : (q4 : Int) * 2 = (m2 : Int) := by omega
  have w_m2 : IntKind.i64.wrap (m2 : Int) = (m2 : Int) := IntWalk.i64_in _ (by omega)
  clear hm2
  obtain ⟨m3, hm3⟩ : ∃ q : Nat, q = q4 * 3 := ⟨_, rfl⟩
  have H_m3 := Lib.hid hm3
  have e_m3 : (q4 : Int) * 3 = (m3 : Int) := by omega
  have w_m3 : IntKind.i64.wrap (m3 : Int) = (m3 : Int) := IntWalk.i64_in _ (by omega)
  clear hm3
  have hm23 : m2 ≤ 2 * q4 ∧ m3 ≤ 3 * q4 := by have h1 := H_m2.out; have h2 := H_m3.out; omega
  obtain ⟨x1, hx1⟩ : ∃ q : Nat, q = a + q4 := ⟨_, rfl⟩
  have H_x1 := Lib.hid hx1
  have e_x1 : (a : Int) + (q4 : Int) = (x1 : Int) := by omega
  have w_x1 : IntKind.i64.wrap (x1 : Int) = (x1 : Int) := IntWalk.i64_in _ (by omega)
  have l_x1 : x1 < n := by omega
  have k_x1 : (x1 : Int) < (n : Int) := by omega
  clear hx1
  obtain ⟨x2, hx2⟩ : ∃ q : Nat, q = a + m2 := ⟨_, rfl⟩
  have H_x2 := Lib.hid hx2
  have e_x2 : (a : Int) + (m2 : Int) = (x2 : Int) := by omega
  have w_x2 : IntKind.i64.wrap (x2 : Int) = (x2 : Int) := IntWalk.i64_in _ (by omega)
  have l_x2 : x2 < n := by omega
  have k_x2 : (x2 : Int) < (n : Int) := by omega
  clear hx2
  obtain ⟨x3, hx3⟩ : ∃ q : Nat, q = a + m3 := ⟨_, rfl⟩
  have H_x3 := Lib.hid hx3
  have e_x3 : (a : Int) + (m3 : Int) = (x3 : Int) := by omega
  have w_x3 : IntKind.i64.wrap (x3 : Int) = (x3 : Int) := IntWalk.i64_in _ (by omega)
  have l_x3 : x3 < n := by omega
  have k_x3 : (x3 : Int) < (n : Int) := by omega
  clear hx3
  have hL8 : (8 : Int) ≤ (L : Int) := by omega
  have hL5 : ¬ (50 : Int) ≤ (L : Int) := by omega
  obtain ⟨q, hq⟩ : ∃ q, q = W.heap.size := ⟨_, rfl⟩
  have hqg : q ≠ g := by
    obtain ⟨ss, _, h2, _⟩ := hS
    obtain ⟨a', cap', e1, _, _, hg⟩ := Row.form h2
    obtain ⟨g', e2, _, hlt, _⟩ := hg (by omega)
    simp only [Value.slice.injEq] at e1
    obtain ⟨e1, -, -⟩ := e1
    rw [← e1] at e2
    simp only [Option.some.injEq, Addr.mk.injEq] at e2
    omega
  have hq0 : w0.heap.size ≤ q := by
    obtain ⟨ss, _, _, h3⟩ := hS
    have := h3.size
    omega
  have HQ := Lib.hid (And.intro hqg hq0)
  have hb0 : Blk (W.alloc (.cells #[.int .i64 0] 3 (0, 0))) q 3 [.int .i64 0] := by rw [hq]; exact Blk.new W _ [.int .i64 0]
  have HB := Lib.hid hb0
  have HS := Lib.hid (hS.calm ((Mod.refl _ _).alloc (.cells #[.int .i64 0] 3 (0, 0))))
  clear hS hb0 hqg hq0
  go_enter Tryz.func180, Tryz.ntmps180
  go_wp2_with fail
  rw [← hq]
  refine (medS HC HS.out x1 x2 x3 q 0 (by omega) (by omega) (by omega) HB.out (by omega) HQ.out.1 HQ.out.2).mono ?_
  rintro e W1 ⟨x, hx, rfl, hs1, k, hk0, hk3, hb1⟩
  have HS1 := Lib.hid hs1
  have c0 : W1.cell? ⟨W.heap.size, 0, none⟩ = some (.int .i64 k) := by rw [← hq]; exact hb1.cell rfl
  have HX : Hid (a ≤ x ∧ x < b) := Lib.hid (by have h1 := H_x1.out; have h2 := H_x2.out; have h3 := H_x3.out; omega)
  have hk12 : ¬ k = 12 := by omega
  have bk12 : (k == 12) = false := by simp [hk12]
  clear hs1 hb1 hx HS HB
  by_cases hk : k = 0
  · subst hk
    go_wp2
    go_ret2
    exact ⟨x, 1, HX.out.1, HX.out.2, rfl, HS1.out⟩
  · have bk0 : (k == 0) = false := by simp [hk]
    go_wp2
    go_ret2
    exact ⟨x, 0, HX.out.1, HX.out.2, rfl, HS1.out⟩
end
section
variable {c g n cap : Nat} {ss0 : List ByteArray} {w0 : World}
set_option maxRecDepth 100000 in
set_option maxHeartbeats 4000000 in
theorem pisS (HC : Hid (SCx c g n cap ss0 w0)) {W : World} (hS : Srd g n cap ss0 w0 W) (a b : Nat) (hab : a < b) (hb : b ≤ n) :
    Calls Tryz.prog 182 #[.slice (some ⟨g, 0, none⟩) n cap, .int .i64 (a : Int), .int .i64 (b : Int), .func (.func 102) #[.pointer (some ⟨c, 0, none⟩)] #[]] W fun e W' => ∃ x : Bool, e = .returned (.bool x) ∧ Srd g n cap ss0 w0 W' := by
  have hn4 := HC.out.n4
  have HS := Lib.hid hS
  clear hS
  obtain ⟨a1, ha1⟩ : ∃ q : Nat, q = a + 1 := ⟨_, rfl⟩
  have H_a1 := Lib.hid ha1
  have e_a1 : (a : Int) + 1 = (a1 : Int) := by omega
  have w_a1 : IntKind.i64.wrap (a1 : Int) = (a1 : Int) := IntWalk.i64_in _ (by omega)
  clear ha1
  obtain ⟨L, hL⟩ : ∃ q : Nat, q = b - a := ⟨_, rfl⟩
  have H_L := Lib.hid hL
  have e_L : (b : Int) - (a : Int) = (L : Int) := by omega
  have w_L : IntKind.i64.wrap (L : Int) = (L : Int) := IntWalk.i64_in _ (by omega)
  clear hL
  have ha1 : a1 ≤ a + 1 ∧ a + 1 ≤ a1 := by have := H_a1.out; omega
  have hL5 : (L : Int) < 50 := by have := H_L.out; omega
  go_enter Tryz.func182, Tryz.ntmps182
  go_wp2_with fail
  go_loopw [9, 10] (fun iv jv wr => iv = .int .i64 (a1 : Int) ∧ jv = .int .i64 0 ∧ Srd g n cap ss0 w0 wr) (fun _ _ _ => 0)
  case atStart => exact ⟨rfl, rfl, HS.out⟩
  case round =>
    clear HS
    obtain ⟨rfl, rfl, hs⟩ := hrel
    have HSI := Lib.hid hs
    clear hs
    go_upto_block 2 with fail
    go_cut [9] from 19 to 39 (fun iv wx => ∃ i : Nat, a + 1 ≤ i ∧ i ≤ b ∧ iv = .int .i64 (i : Int) ∧ Srd g n cap ss0 w0 wx)
    case first =>
      go_wp2_with fail
      go_loopw [9] (fun iv wr => ∃ i : Nat, a + 1 ≤ i ∧ i ≤ b ∧ iv = .int .i64 (i : Int) ∧ Srd g n cap ss0 w0 wr) (fun iv _ => b + 1 - (intOf iv).toNat)
      case atStart => exact ⟨a1, by omega, by omega, rfl, HSI.out⟩
      case round =>
        clear HSI
        obtain ⟨i, hv1, hv2, rfl, hs⟩ := hrel
        by_cases hij : i < b
        · have q3 : (i : Int) < (b : Int) := by omega
          have q4 : decide ((i : Int) < (b : Int)) = true := decide_eq_true q3
          have hvn : i < n := by omega
          have q5 : (i : Int) < (n : Int) := by omega
          obtain ⟨ip, hip⟩ : ∃ q : Nat, q = i - 1 := ⟨_, rfl⟩
          have H_ip := Lib.hid hip
          have e_ip : (i : Int) - 1 = (ip : Int) := by omega
          have w_ip : IntKind.i64.wrap (ip : Int) = (ip : Int) := IntWalk.i64_in _ (by omega)
          have l_ip : ip < n := by omega
          have k_ip : (ip : Int) < (n : Int) := by omega
          clear hip
          go_wp2_with fail
          obtain ⟨ssA, hpA, hrA, hmA⟩ := hs
          obtain ⟨xA, hxA⟩ : ∃ x, ssA[i]? = some x := ⟨_, List.getElem?_eq_getElem (by rw [Srt.len hrA]; omega)⟩
          obtain ⟨yA, hyA⟩ : ∃ x, ssA[ip]? = some x := ⟨_, List.getElem?_eq_getElem (by rw [Srt.len hrA]; omega)⟩
          have hSA : wr.drew.cell? ⟨g, i, none⟩ = some (.string xA) ∧ wr.drew.cell? ⟨g, ip, none⟩ = some (.string yA) := ⟨Srt.cell hrA hxA, Srt.cell hrA hyA⟩
          have hcA := HC.out.cmp wr.drew xA yA hmA.drew (hpA.mem_iff.1 (List.mem_of_getElem? hxA)) (hpA.mem_iff.1 (List.mem_of_getElem? hyA))
          have HSA := Lib.hid (Srt.mk' hpA hrA hmA)
          have HCA := Lib.hid hcA
          clear hpA hrA hmA hxA hyA hcA
          refine wp_region_plan [14] [(0, 0), (1, 0), (2, 0), (3, 0), (4, 0), (5, 0), (6, 0), (7, 0), (8, 1), (9, 0), (10, 0), (11, 0), (12, 0), (13, 1), (14, 3), (15, 0), (16, 0), (17, 0)] (fun w' : World => w'.cell? ⟨g, i, none⟩ = some (.string xA) ∧ w'.cell? ⟨g, ip, none⟩ = some (.string yA)) (by kernel_rfl) (by kernel_rfl) (fun d v c a w h => by first | (cases d <;> exact h) | exact HP d v c a w h) ?_
          repeat ((first | refine plan_skip rfl rfl ?_ | refine plan_pass2 rfl rfl ?_ | refine plan_pass3 rfl rfl ?_ | (refine plan_take (v := ?_) rfl rfl ?_ ?_; rotate_left; focus (intro w0; go_simp; try with_reducible rfl)) | (refine plan_held (v := ?_) rfl rfl hSA ?_ ?_; rotate_left; focus (intro w0 hSw; (try dsimp only at hSw); go_split_ands; go_simp; try with_reducible rfl)) | refine plan_skip1 rfl rfl hSA ?_); simp only [List.getElem_toArray, List.getElem_cons_succ, List.getElem_cons_zero, Act.put, List.setIfInBounds_toArray, List.set_cons_zero, List.set_cons_succ])
          (refine plan_end rfl rfl rfl fun K hK => ?_; (try simp only [List.getElem_toArray, List.getElem_cons_succ, List.getElem_cons_zero]))
          go_simp
          refine HCA.out.mono ?_
          rintro e W2 ⟨⟨rA, rfl⟩, hmA⟩
          have hs2 : Srd g n cap ss0 w0 W2 := HSA.out.calm ((Mod.refl _ _).drew.trans hmA fun _ f => f.elim)
          refine hK _ _ ?_
          clear hK K hSA HSA HCA hmA
          try simp only [List.getElem_toArray, List.getElem_cons_succ, List.getElem_cons_zero, Act.put, List.setIfInBounds_toArray, List.set_cons_zero, List.set_cons_succ]
          by_cases hr : rA < 0
          · have hd : decide (rA < 0) = true := decide_eq_true hr
            repeat ((first | refine plan_skip rfl rfl ?_ | refine plan_pass2 rfl rfl ?_ | refine plan_pass3 rfl rfl ?_ | (refine plan_take (v := ?_) rfl rfl ?_ ?_; rotate_left; focus (intro w0; go_simp; try with_reducible rfl))); simp only [List.getElem_toArray, List.getElem_cons_succ, List.getElem_cons_zero, Act.put, List.setIfInBounds_toArray, List.set_cons_zero, List.set_cons_succ])
            refine plan_nil ?_
            have HS2 := Lib.hid hs2
            clear hs2
            go_wp2_with fail
            go_meet
            exact ⟨i, hv1, hv2, rfl, HS2.out⟩
          · have hd : decide (rA < 0) = false := decide_eq_false hr
            repeat ((first | refine plan_skip rfl rfl ?_ | refine plan_pass2 rfl rfl ?_ | refine plan_pass3 rfl rfl ?_ | (refine plan_take (v := ?_) rfl rfl ?_ ?_; rotate_left; focus (intro w0; go_simp; try with_reducible rfl))); simp only [List.getElem_toArray, List.getElem_cons_succ, List.getElem_cons_zero, Act.put, List.setIfInBounds_toArray, List.set_cons_zero, List.set_cons_succ])
            refine plan_nil ?_
            have HS2 := Lib.hid hs2
            clear hs2
            go_wp2
            go_roundw
            case rel => exact ⟨i + 1, by omega, by omega, by go_num, HS2.out⟩
            case measure => simp [intOf]; omega
        · have q3 : ¬ (i : Int) < (b : Int) := by omega
          have q4 : decide ((i : Int) < (b : Int)) = false := decide_eq_false q3
          have HS2 := Lib.hid hs.drew
          clear hs
          go_wp2_with fail
          refine wp_region_plan [14] [(0, 0), (1, 0), (2, 0), (3, 0), (4, 0), (5, 0), (6, 0), (7, 0), (8, 1), (9, 0), (10, 0), (11, 0), (12, 0), (13, 1), (14, 3), (15, 0), (16, 0), (17, 0)] (fun w' : World => True) (by kernel_rfl) (by kernel_rfl) (fun d v c a w h => by first | (cases d <;> exact h) | exact HP d v c a w h) ?_
          repeat ((first | refine plan_skip rfl rfl ?_ | refine plan_pass2 rfl rfl ?_ | refine plan_pass3 rfl rfl ?_ | (refine plan_take (v := ?_) rfl rfl ?_ ?_; rotate_left; focus (intro w0; go_simp; try with_reducible rfl)) | (refine plan_held (v := ?_) rfl rfl trivial ?_ ?_; rotate_left; focus (intro w0 hSw; (try dsimp only at hSw); go_split_ands; go_simp; try with_reducible rfl)) | refine plan_skip1 rfl rfl trivial ?_); simp only [List.getElem_toArray, List.getElem_cons_succ, List.getElem_cons_zero, Act.put, List.setIfInBounds_toArray, List.set_cons_zero, List.set_cons_succ])
          refine plan_nil ?_
          go_wp2_with fail
          go_meet
          exact ⟨i, hv1, hv2, rfl, HS2.out⟩
    case rest =>
      rename World => wx
      clear HSI
      obtain ⟨i, hv1, hv2, rfl, hs⟩ := hcut
      have HSJ := Lib.hid hs
      clear hs
      by_cases hib : i = b
      · have bib : ((i : Int) == (b : Int)) = true := by simp; omega
        go_wp2
        go_ret
        exact ⟨true, rfl, HSJ.out⟩
      · have hib2 : ¬ (i : Int) = (b : Int) := by omega
        have bib : ((i : Int) == (b : Int)) = false := by simp; omega
        go_wp2
        go_ret
        exact ⟨false, rfl, HSJ.out⟩
end
end Go.Proofs.YtcccdlmngddalaaGreat
namespace Go.Proofs.YtcccdlmngddalaaGreat
open Go.RowKit Go.Sort Go.Shelf Go.Lib
set_option linter.unusedVariables false
set_option linter.unusedSimpArgs false
theorem xsSz : (Tryz.prog.info? 195).map (·.size) = some 1 := by kernel_rfl
theorem Tryz.sortFSx : SlLaysF0.n6 Tryz.prog Tryz.sortFS_ren := { Tryz.sortFS with }
theorem nextS {w : World} {x X : Nat} (hb : Blk w x 195 [.int .u64 (X : Int)]) (hX : X < 18446744073709551616) : Calls Tryz.prog 174 #[.pointer (some ⟨x, 0, none⟩)] w fun e w' => ∃ Y : Nat, Y < 18446744073709551616 ∧ e = .returned (.int .u64 (Y : Int)) ∧ Blk w' x 195 [.int .u64 (Y : Int)] ∧ Mod (fun k => k = x) w w' := by
  refine (AnyF.xorshift_Next (P := Tryz.prog) (ρ := Tryz.sortFS_ren) { Tryz.sortFSx with } x 0 X hX w (hb.cell rfl) (hb.free 0)).mono ?_
  rintro e w' ⟨rfl, rfl⟩
  exact ⟨_, Go.Sort.xorNextN_lt X hX, rfl, (hb.set 0 _), ((((Mod.refl (fun k => k = x) w).setCell (p := ⟨x, 0, none⟩) (.inl rfl) _)).drew.drew.drew)⟩
theorem npS (L : Nat) (hL : 0 < L) (hL2 : L ≤ 49) (w : World) : Calls Tryz.prog 173 #[.int .i64 (L : Int)] w fun e w' => (∃ M : Nat, 1 ≤ M ∧ M ≤ 2 * L ∧ e = .returned (.int .u64 (M : Int))) ∧ w' = w := by
  refine (AnyF.nextPowerOfTwo (P := Tryz.prog) (ρ := Tryz.sortFS_ren) { Tryz.sortFSx with } L (by omega) w).mono ?_
  rintro e w' ⟨rfl, rfl⟩
  refine ⟨⟨_, ?_, ?_, rfl⟩, rfl⟩
  · rw [Nat.one_shiftLeft]; exact Nat.two_pow_pos _
  · rw [Nat.one_shiftLeft]; exact two_pow_bitsLen_le hL
section
variable {c g n cap : Nat} {ss0 : List ByteArray} {w0 : World}
set_option maxRecDepth 100000 in
set_option maxHeartbeats 4000000 in
theorem bkpS (HC : Hid (SCx c g n cap ss0 w0)) {W : World} (hS : Srd g n cap ss0 w0 W) (a b : Nat) (hab : a + 12 < b) (hb : b ≤ n) :
    Calls Tryz.prog 179 #[.slice (some ⟨g, 0, none⟩) n cap, .int .i64 (a : Int), .int .i64 (b : Int), .func (.func 102) #[.pointer (some ⟨c, 0, none⟩)] #[]] W fun e W' => e = .returned (.tuple #[]) ∧ Srd g n cap ss0 w0 W' := by
  have hn4 := HC.out.n4
  obtain ⟨L, hL⟩ : ∃ q : Nat, q = b - a := ⟨_, rfl⟩
  have H_L := Lib.hid hL
  have e_L : (b : Int) - (a : Int) = (L : Int) := by omega
  have w_L : IntKind.i64.wrap (L : Int) = (L : Int) := IntWalk.i64_in _ (by omega)
  clear hL
  obtain ⟨q4, hq4⟩ : ∃ q : Nat, q = L / 4 := ⟨_, rfl⟩
  have H_q4 := Lib.hid hq4
  have w_q4 : IntKind.i64.wrap (q4 : Int) = (q4 : Int) := IntWalk.i64_in _ (by omega)
  clear hq4
  have e_q4 : ((L : Nat) : Int).tdiv 4 = (q4 : Int) := by rw [H_q4.out]; exact Int.ofNat_tdiv L 4 |>.symm
  have hq4 : 3 ≤ q4 ∧ 4 * q4 ≤ L := by have h1 := H_q4.out; have h2 := H_L.out; omega
  have hL : a + L ≤ b ∧ b ≤ a + L := by have h2 := H_L.out; omega
  obtain ⟨m2, hm2⟩ : ∃ q : Nat, q = q4 * 2 := ⟨_, rfl⟩
  have H_m2 := Lib.hid hm2
  have e_m2 : (q4 : Int) * 2 = (m2 : Int) := by omega
  have w_m2 : IntKind.i64.wrap (m2 : Int) = (m2 : Int) := IntWalk.i64_in _ (by omega)
  clear hm2
  have hm2 : m2 ≤ 2 * q4 := by have h1 := H_m2.out; omega
  obtain ⟨x0, hx0⟩ : ∃ q : Nat, q = a + m2 := ⟨_, rfl⟩
  have H_x0 := Lib.hid hx0
  have e_x0 : (a : Int) + (m2 : Int) = (x0 : Int) := by omega
  have w_x0 : IntKind.i64.wrap (x0 : Int) = (x0 : Int) := IntWalk.i64_in _ (by omega)
  have l_x0 : x0 < n := by omega
  have k_x0 : (x0 : Int) < (n : Int) := by omega
  clear hx0
  have hx0 : a + m2 ≤ x0 ∧ x0 ≤ a + m2 := by have h1 := H_x0.out; omega
  have hm2' : 6 ≤ m2 := by have h1 := H_m2.out; omega
  obtain ⟨i0, hi0⟩ : ∃ q : Nat, q = x0 - 1 := ⟨_, rfl⟩
  have H_i0 := Lib.hid hi0
  have e_i0 : (x0 : Int) - 1 = (i0 : Int) := by omega
  have w_i0 : IntKind.i64.wrap (i0 : Int) = (i0 : Int) := IntWalk.i64_in _ (by omega)
  have l_i0 : i0 < n := by omega
  have k_i0 : (i0 : Int) < (n : Int) := by omega
  clear hi0
  obtain ⟨i1, hi1⟩ : ∃ q : Nat, q = x0 + 1 := ⟨_, rfl⟩
  have H_i1 := Lib.hid hi1
  have e_i1 : (x0 : Int) + 1 = (i1 : Int) := by omega
  have w_i1 : IntKind.i64.wrap (i1 : Int) = (i1 : Int) := IntWalk.i64_in _ (by omega)
  have l_i1 : i1 < n := by omega
  have k_i1 : (i1 : Int) < (n : Int) := by omega
  clear hi1
  have hi01 : i0 + 1 ≤ x0 ∧ x0 ≤ i0 + 1 ∧ i1 ≤ x0 + 1 ∧ x0 + 1 ≤ i1 := by have h1 := H_i0.out; have h2 := H_i1.out; omega
  have hL8 : (8 : Int) ≤ (L : Int) := by omega
  have uL : IntKind.u64.wrap (L : Int) = (L : Int) := by simp [IntKind.wrap, IntKind.bits, IntKind.signed]; omega
  have hqg : W.heap.size ≠ g := by
    obtain ⟨ss, _, h2, _⟩ := hS
    obtain ⟨a', cap', e1, _, _, hg⟩ := Row.form h2
    obtain ⟨g', e2, _, hlt, _⟩ := hg (by omega)
    simp only [Value.slice.injEq] at e1
    obtain ⟨e1, -, -⟩ := e1
    rw [← e1] at e2
    simp only [Option.some.injEq, Addr.mk.injEq] at e2
    omega
  have hq0 : w0.heap.size ≤ W.heap.size := by
    obtain ⟨ss, _, _, h3⟩ := hS
    exact h3.size
  have HX0 : Hid (Blk (W.alloc (.cells #[.int .u64 0] 195 (0, 0))) W.heap.size 195 [.int .u64 0]) := Lib.hid (Blk.new W _ [.int .u64 0])
  have HS0 := Lib.hid (hS.calm ((Mod.refl _ _).alloc (.cells #[.int .u64 0] 195 (0, 0))))
  have HBX0 := Lib.hid (And.intro hqg hq0)
  clear hS hqg hq0
  go_enter Tryz.func179, Tryz.ntmps179
  go_wp2_with (refine wpList_store_blk1 rfl 195 _ _ rfl W.heap.size 0 195 _ (.int .u64 (L : Int)) rfl (by go_simp) HX0.out (by simp) xsSz rfl ?_; intro W1 HX1 HM1)
  have HS1 := Lib.hid (HS0.out.aside HM1.out HBX0.out.1 HBX0.out.2)
  obtain ⟨bx, hbx⟩ : ∃ bx, bx = W.heap.size := ⟨_, rfl⟩
  have HX1' : Hid (Blk W1 bx 195 [.int .u64 (L : Int)]) := Lib.hid (by rw [hbx]; exact HX1.out)
  have HBX : Hid (bx ≠ g ∧ w0.heap.size ≤ bx) := Lib.hid (by rw [hbx]; exact HBX0.out)
  clear HX0 HS0 HM1 HX1
  refine (npS L (by omega) (by omega) _).mono ?_
  rintro e w' ⟨⟨M, hM1, hM2, rfl⟩, rfl⟩
  obtain ⟨m1, hm1⟩ : ∃ q : Nat, q = M - 1 := ⟨_, rfl⟩
  have H_m1 := Lib.hid hm1
  have e_m1 : (M : Int) - 1 = (m1 : Int) := by omega
  have u_m1 : IntKind.u64.wrap (m1 : Int) = (m1 : Int) := by simp [IntKind.wrap, IntKind.bits, IntKind.signed]; omega
  have hm12 : m1 < 2 * L := by omega
  clear hm1
  go_wp2_with fail
  rw [← hbx]
  have HBE := Lib.hid hbx
  clear hbx
  go_loopw [11] (fun iv wr => ∃ i X : Nat, i0 ≤ i ∧ i ≤ i1 + 1 ∧ iv = .int .i64 (i : Int) ∧ X < 18446744073709551616 ∧ Blk wr bx 195 [.int .u64 (X : Int)] ∧ Srd g n cap ss0 w0 wr) (fun iv _ => i1 + 2 - (intOf iv).toNat)
  case atStart => exact ⟨i0, L, by omega, by omega, rfl, by omega, HX1'.out, HS1.out⟩
  case round =>
    clear HX1' HS1
    obtain ⟨i, X, hi0, hi1, rfl, hX, hbx, hs⟩ := hrel
    have HSI := Lib.hid hs
    have HXI := Lib.hid hbx
    clear hs hbx
    by_cases hii : i ≤ i1
    · have qii : (i : Int) ≤ (i1 : Int) := by omega
      have hin : i < n := by omega
      have qin : (i : Int) < (n : Int) := by omega
      go_wp2_with fail
      refine (nextS HXI.out hX).mono ?_
      rintro e W2 ⟨Y, hY, rfl, hb2, hm2⟩
      have HX2 := Lib.hid hb2
      have hs2 := HSI.out.aside hm2 HBX.out.1 HBX.out.2
      clear hb2 hm2 HSI HXI
      obtain ⟨O, hO⟩ : ∃ O : Nat, O = Y &&& m1 := ⟨_, rfl⟩
      have hO1 : O ≤ m1 := by rw [hO]; exact Nat.and_le_right
      have e_O : bits .and .u64 (Y : Int) (m1 : Int) = (O : Int) := by rw [bits_and_u64_nat _ _ hY (by omega), hO]
      have w_O : IntKind.i64.wrap (O : Int) = (O : Int) := IntWalk.i64_in _ (by omega)
      clear hO
      by_cases hLO : L ≤ O
      · have qLO : (L : Int) ≤ (O : Int) := by omega
        obtain ⟨o2, ho2⟩ : ∃ q : Nat, q = O - L := ⟨_, rfl⟩
        have H_o2 := Lib.hid ho2
        have e_o2 : (O : Int) - (L : Int) = (o2 : Int) := by omega
        have w_o2 : IntKind.i64.wrap (o2 : Int) = (o2 : Int) := IntWalk.i64_in _ (by omega)
        clear ho2
        have ho2 : o2 < L := by have := H_o2.out; omega
        go_wp2_with fail
        obtain ⟨p, hp⟩ : ∃ q : Nat, q = a + o2 := ⟨_, rfl⟩
        have H_p := Lib.hid hp
        have e_p : (a : Int) + (o2 : Int) = (p : Int) := by omega
        have w_p : IntKind.i64.wrap (p : Int) = (p : Int) := IntWalk.i64_in _ (by omega)
        have l_p : p < n := by omega
        have k_p : (p : Int) < (n : Int) := by omega
        clear hp
        obtain ⟨ssA, hpA, hrA, hmA⟩ := hs2
        obtain ⟨xA, hxA⟩ : ∃ x, ssA[i]? = some x := ⟨_, List.getElem?_eq_getElem (by rw [Srt.len hrA]; omega)⟩
        obtain ⟨yA, hyA⟩ : ∃ x, ssA[p]? = some x := ⟨_, List.getElem?_eq_getElem (by rw [Srt.len hrA]; omega)⟩
        have hSA : W2.drew.cell? ⟨g, i, none⟩ = some (.string xA) ∧ W2.drew.cell? ⟨g, p, none⟩ = some (.string yA) := ⟨Srt.cell hrA hxA, Srt.cell hrA hyA⟩
        have HPA := Lib.hid hpA
        have HRA := Lib.hid hrA
        have HMA := Lib.hid hmA
        have HXA := Lib.hid hxA
        have HYA := Lib.hid hyA
        clear hpA hrA hmA hxA hyA
        refine wp_region_plan [17, 19] [(0, 0), (1, 0), (2, 0), (3, 0), (4, 0), (5, 0), (6, 0), (7, 0), (8, 0), (9, 0), (10, 0), (11, 1), (12, 0), (13, 0), (14, 0), (15, 1), (16, 0), (17, 3), (18, 0), (19, 3)] (fun w' : World => w'.cell? ⟨g, i, none⟩ = some (.string xA) ∧ w'.cell? ⟨g, p, none⟩ = some (.string yA)) (by kernel_rfl) (by kernel_rfl) (fun d v c a w h => by first | (cases d <;> exact h) | exact HP d v c a w h) ?_
        repeat ((first | refine plan_skip rfl rfl ?_ | refine plan_pass2 rfl rfl ?_ | refine plan_pass3 rfl rfl ?_ | (refine plan_take (v := ?_) rfl rfl ?_ ?_; rotate_left; focus (intro w0; go_simp; try with_reducible rfl)) | (refine plan_held (v := ?_) rfl rfl hSA ?_ ?_; rotate_left; focus (intro w0 hSw; (try dsimp only at hSw); go_split_ands; go_simp; try with_reducible rfl)) | refine plan_skip1 rfl rfl hSA ?_); simp only [List.getElem_toArray, List.getElem_cons_succ, List.getElem_cons_zero, Act.put, List.setIfInBounds_toArray, List.set_cons_zero, List.set_cons_succ])
        (refine plan_end rfl rfl rfl fun K hK => ?_; (try simp only [List.getElem_toArray, List.getElem_cons_succ, List.getElem_cons_zero]))
        refine wp_store_row1 9 _ _ rfl (Row.drew HRA.out) g (i) (.string yA) rfl rfl rfl (by rw [Srt.len' HRA.out]; omega) sSz rfl ?_
        intro W3 HR3 HM3
        refine hK _ _ ?_
        clear hK K hSA
        try simp only [List.getElem_toArray, List.getElem_cons_succ, List.getElem_cons_zero, Act.put, List.setIfInBounds_toArray, List.set_cons_zero, List.set_cons_succ]
        repeat ((first | refine plan_skip rfl rfl ?_ | refine plan_pass2 rfl rfl ?_ | refine plan_pass3 rfl rfl ?_ | (refine plan_take (v := ?_) rfl rfl ?_ ?_; rotate_left; focus (intro w0; go_simp; try with_reducible rfl))); simp only [List.getElem_toArray, List.getElem_cons_succ, List.getElem_cons_zero, Act.put, List.setIfInBounds_toArray, List.set_cons_zero, List.set_cons_succ])
        (refine plan_end rfl rfl rfl fun K hK => ?_; (try simp only [List.getElem_toArray, List.getElem_cons_succ, List.getElem_cons_zero]))
        refine wp_store_row1 9 _ _ rfl HR3.out g (p) (.string xA) rfl rfl rfl (by rw [List.length_set, Srt.len' HRA.out]; omega) sSz rfl ?_
        intro W4 HR4 HM4
        refine hK _ _ ?_
        clear hK K
        try simp only [List.getElem_toArray, List.getElem_cons_succ, List.getElem_cons_zero, Act.put, List.setIfInBounds_toArray, List.set_cons_zero, List.set_cons_succ]
        refine plan_nil ?_
        have hs4 : Srd g n cap ss0 w0 W4 := Srt.swap HPA.out HRA.out HMA.out HXA.out HYA.out HR4.out (((Mod.refl _ _).drew.trans HM3.out fun q hq => .inl hq).trans HM4.out fun q hq => .inl hq)
        have HX4 : Hid (Blk W4 bx 195 [.int .u64 (Y : Int)]) := Lib.hid ((Blk.keep (Blk.keep HX2.out.drew HM3.out fun e => HBX.out.1 e) HM4.out fun e => HBX.out.1 e))
        clear HPA HRA HMA HXA HYA HR3 HM3 HR4 HM4
        have HS4 := Lib.hid hs4
        clear hs4
        go_wp2
        go_roundw
        case rel => exact ⟨i + 1, Y, by omega, by omega, by go_num, hY, HX4.out, HS4.out⟩
        case measure => simp [intOf]; omega
      · have qLO : ¬ (L : Int) ≤ (O : Int) := by omega
        go_wp2_with fail
        obtain ⟨p, hp⟩ : ∃ q : Nat, q = a + O := ⟨_, rfl⟩
        have H_p := Lib.hid hp
        have e_p : (a : Int) + (O : Int) = (p : Int) := by omega
        have w_p : IntKind.i64.wrap (p : Int) = (p : Int) := IntWalk.i64_in _ (by omega)
        have l_p : p < n := by omega
        have k_p : (p : Int) < (n : Int) := by omega
        clear hp
        obtain ⟨ssA, hpA, hrA, hmA⟩ := hs2
        obtain ⟨xA, hxA⟩ : ∃ x, ssA[i]? = some x := ⟨_, List.getElem?_eq_getElem (by rw [Srt.len hrA]; omega)⟩
        obtain ⟨yA, hyA⟩ : ∃ x, ssA[p]? = some x := ⟨_, List.getElem?_eq_getElem (by rw [Srt.len hrA]; omega)⟩
        have hSA : W2.drew.cell? ⟨g, i, none⟩ = some (.string xA) ∧ W2.drew.cell? ⟨g, p, none⟩ = some (.string yA) := ⟨Srt.cell hrA hxA, Srt.cell hrA hyA⟩
        have HPA := Lib.hid hpA
        have HRA := Lib.hid hrA
        have HMA := Lib.hid hmA
        have HXA := Lib.hid hxA
        have HYA := Lib.hid hyA
        clear hpA hrA hmA hxA hyA
        refine wp_region_plan [17, 19] [(0, 0), (1, 0), (2, 0), (3, 0), (4, 0), (5, 0), (6, 0), (7, 0), (8, 0), (9, 0), (10, 0), (11, 1), (12, 0), (13, 0), (14, 0), (15, 1), (16, 0), (17, 3), (18, 0), (19, 3)] (fun w' : World => w'.cell? ⟨g, i, none⟩ = some (.string xA) ∧ w'.cell? ⟨g, p, none⟩ = some (.string yA)) (by kernel_rfl) (by kernel_rfl) (fun d v c a w h => by first | (cases d <;> exact h) | exact HP d v c a w h) ?_
        repeat ((first | refine plan_skip rfl rfl ?_ | refine plan_pass2 rfl rfl ?_ | refine plan_pass3 rfl rfl ?_ | (refine plan_take (v := ?_) rfl rfl ?_ ?_; rotate_left; focus (intro w0; go_simp; try with_reducible rfl)) | (refine plan_held (v := ?_) rfl rfl hSA ?_ ?_; rotate_left; focus (intro w0 hSw; (try dsimp only at hSw); go_split_ands; go_simp; try with_reducible rfl)) | refine plan_skip1 rfl rfl hSA ?_); simp only [List.getElem_toArray, List.getElem_cons_succ, List.getElem_cons_zero, Act.put, List.setIfInBounds_toArray, List.set_cons_zero, List.set_cons_succ])
        (refine plan_end rfl rfl rfl fun K hK => ?_; (try simp only [List.getElem_toArray, List.getElem_cons_succ, List.getElem_cons_zero]))
        refine wp_store_row1 9 _ _ rfl (Row.drew HRA.out) g (i) (.string yA) rfl rfl rfl (by rw [Srt.len' HRA.out]; omega) sSz rfl ?_
        intro W3 HR3 HM3
        refine hK _ _ ?_
        clear hK K hSA
        try simp only [List.getElem_toArray, List.getElem_cons_succ, List.getElem_cons_zero, Act.put, List.setIfInBounds_toArray, List.set_cons_zero, List.set_cons_succ]
        repeat ((first | refine plan_skip rfl rfl ?_ | refine plan_pass2 rfl rfl ?_ | refine plan_pass3 rfl rfl ?_ | (refine plan_take (v := ?_) rfl rfl ?_ ?_; rotate_left; focus (intro w0; go_simp; try with_reducible rfl))); simp only [List.getElem_toArray, List.getElem_cons_succ, List.getElem_cons_zero, Act.put, List.setIfInBounds_toArray, List.set_cons_zero, List.set_cons_succ])
        (refine plan_end rfl rfl rfl fun K hK => ?_; (try simp only [List.getElem_toArray, List.getElem_cons_succ, List.getElem_cons_zero]))
        refine wp_store_row1 9 _ _ rfl HR3.out g (p) (.string xA) rfl rfl rfl (by rw [List.length_set, Srt.len' HRA.out]; omega) sSz rfl ?_
        intro W4 HR4 HM4
        refine hK _ _ ?_
        clear hK K
        try simp only [List.getElem_toArray, List.getElem_cons_succ, List.getElem_cons_zero, Act.put, List.setIfInBounds_toArray, List.set_cons_zero, List.set_cons_succ]
        refine plan_nil ?_
        have hs4 : Srd g n cap ss0 w0 W4 := Srt.swap HPA.out HRA.out HMA.out HXA.out HYA.out HR4.out (((Mod.refl _ _).drew.trans HM3.out fun q hq => .inl hq).trans HM4.out fun q hq => .inl hq)
        have HX4 : Hid (Blk W4 bx 195 [.int .u64 (Y : Int)]) := Lib.hid ((Blk.keep (Blk.keep HX2.out.drew HM3.out fun e => HBX.out.1 e) HM4.out fun e => HBX.out.1 e))
        clear HPA HRA HMA HXA HYA HR3 HM3 HR4 HM4
        have HS4 := Lib.hid hs4
        clear hs4
        go_wp2
        go_roundw
        case rel => exact ⟨i + 1, Y, by omega, by omega, by go_num, hY, HX4.out, HS4.out⟩
        case measure => simp [intOf]; omega
    · have qii : ¬ (i : Int) ≤ (i1 : Int) := by omega
      go_wp2
      go_end0
      exact ⟨rfl, HSI.out⟩
end
end Go.Proofs.YtcccdlmngddalaaGreat
namespace Go.Proofs.YtcccdlmngddalaaGreat
open Go.RowKit
set_option linter.unusedVariables false
set_option linter.unusedSimpArgs false
section
variable {c g n cap : Nat} {ss0 : List ByteArray} {w0 : World}
set_option maxRecDepth 100000 in
set_option maxHeartbeats 4000000 in
theorem pdq_step (HC : Hid (SCx c g n cap ss0 w0)) (D : Nat) (IH : Hid (∀ (W : World) (a b l : Nat), Srd g n cap ss0 w0 W → a ≤ b → b ≤ n → b - a < D → l ≤ 64 → Calls Tryz.prog 168 #[.slice (some ⟨g, 0, none⟩) n cap, .int .i64 (a : Int), .int .i64 (b : Int), .int .i64 (l : Int), .func (.func 102) #[.pointer (some ⟨c, 0, none⟩)] #[]] W fun e W' => e = .returned (.tuple #[]) ∧ Srd g n cap ss0 w0 W'))
    {W : World} (hS : Srd g n cap ss0 w0 W) (a b l : Nat) (hab : a ≤ b) (hb : b ≤ n) (hD : b - a ≤ D) (hl : l ≤ 64) :
    Calls Tryz.prog 168 #[.slice (some ⟨g, 0, none⟩) n cap, .int .i64 (a : Int), .int .i64 (b : Int), .int .i64 (l : Int), .func (.func 102) #[.pointer (some ⟨c, 0, none⟩)] #[]] W fun e W' => e = .returned (.tuple #[]) ∧ Srd g n cap ss0 w0 W' := by
  have hn4 := HC.out.n4
  have HS := Lib.hid hS
  clear hS
  go_enter Tryz.func168, Tryz.ntmps168
  go_wp2_with fail
  go_loopw [1, 2, 3, 10, 11] (fun av bv lv xv yv wr => ∃ (a b l : Nat) (x y : Bool), a ≤ b ∧ b ≤ n ∧ b - a ≤ D ∧ l ≤ 64 ∧ av = .int .i64 (a : Int) ∧ bv = .int .i64 (b : Int) ∧ lv = .int .i64 (l : Int) ∧ xv = .bool x ∧ yv = .bool y ∧ Srd g n cap ss0 w0 wr) (fun av bv _ _ _ _ => (intOf bv - intOf av).toNat)
  case atStart => exact ⟨a, b, l, true, true, hab, hb, hD, hl, rfl, rfl, rfl, rfl, rfl, HS.out⟩
  case round =>
    clear HS hab hb hD hl
    obtain ⟨a, b, l, x, y, hab, hb, hD, hl, rfl, rfl, rfl, rfl, rfl, hs⟩ := hrel
    have HSI := Lib.hid hs
    clear hs
    obtain ⟨L, hL⟩ : ∃ q : Nat, q = b - a := ⟨_, rfl⟩
    have H_L := Lib.hid hL
    have e_L : (b : Int) - (a : Int) = (L : Int) := by omega
    have w_L : IntKind.i64.wrap (L : Int) = (L : Int) := IntWalk.i64_in _ (by omega)
    clear hL
    have hL : a + L ≤ b ∧ b ≤ a + L := by have := H_L.out; omega
    by_cases h12 : L ≤ 12
    · have q12 : (L : Int) ≤ 12 := by omega
      go_wp2_with fail
      refine (insS HC HSI.out a b hab hb).mono ?_
      rintro e W1 ⟨rfl, hs1⟩
      have HS1 := Lib.hid hs1
      clear hs1
      go_wp2
      refine bodyPost_ret (results_none rfl _ _ _) rfl ?_
      exact ⟨rfl, HS1.out⟩
    · have q12 : ¬ (L : Int) ≤ 12 := by omega
      by_cases hl0 : l = 0
      · subst hl0
        go_wp2_with fail
        refine (hpsS HC HSI.out a b (by omega) hb).mono ?_
        rintro e W1 ⟨rfl, hs1⟩
        have HS1 := Lib.hid hs1
        clear hs1
        go_wp2
        refine bodyPost_ret (results_none rfl _ _ _) rfl ?_
        exact ⟨rfl, HS1.out⟩
      · have hl1 : ¬ (l : Int) = 0 := by omega
        have hl2 : ((l : Int) == 0) = false := by simp [hl0]
        obtain ⟨lp, hlp⟩ : ∃ q : Nat, q = l - 1 := ⟨_, rfl⟩
        have H_lp := Lib.hid hlp
        have e_lp : (l : Int) - 1 = (lp : Int) := by omega
        have w_lp : IntKind.i64.wrap (lp : Int) = (lp : Int) := IntWalk.i64_in _ (by omega)
        clear hlp
        go_upto_if 39 with fail
        go_cut [3] from 40 to 47 (fun lv wx => ∃ l' : Nat, l' ≤ 64 ∧ lv = .int .i64 (l' : Int) ∧ Srd g n cap ss0 w0 wx)
        case first =>
          cases x with
          | true =>
            go_wp2_with fail
            go_meet
            exact ⟨l, hl, rfl, HSI.out⟩
          | false =>
            go_wp2_with fail
            refine (bkpS HC HSI.out a b (by omega) hb).mono ?_
            rintro e W1 ⟨rfl, hs1⟩
            have HS1 := Lib.hid hs1
            clear hs1
            go_wp2_with fail
            go_meet
            exact ⟨lp, by have := H_lp.out; omega, rfl, HS1.out⟩
        case rest =>
          rename World => wA
          clear HSI
          obtain ⟨l', hl', rfl, hs⟩ := hcut
          have HSA := Lib.hid hs
          clear hs
          go_wp2_with fail
          refine (pivS HC HSA.out a b (by omega) hb).mono ?_
          rintro e W1 ⟨p, h, hpa, hpb, rfl, hs1⟩
          have HS1 := Lib.hid hs1
          clear hs1 HSA
          go_upto_if 56 with fail
          go_cut [13, 14] from 57 to 68 (fun pv hv wx => ∃ (p' : Nat) (h' : Int), a ≤ p' ∧ p' < b ∧ pv = .int .i64 (p' : Int) ∧ hv = .int .i64 h' ∧ Srd g n cap ss0 w0 wx)
          case first =>
            by_cases hh : h = 2
            · subst hh
              obtain ⟨b1, hb1⟩ : ∃ q : Nat, q = b - 1 := ⟨_, rfl⟩
              have H_b1 := Lib.hid hb1
              have e_b1 : (b : Int) - 1 = (b1 : Int) := by omega
              have w_b1 : IntKind.i64.wrap (b1 : Int) = (b1 : Int) := IntWalk.i64_in _ (by omega)
              clear hb1
              obtain ⟨pa, hpa⟩ : ∃ q : Nat, q = p - a := ⟨_, rfl⟩
              have H_pa := Lib.hid hpa
              have e_pa : (p : Int) - (a : Int) = (pa : Int) := by omega
              have w_pa : IntKind.i64.wrap (pa : Int) = (pa : Int) := IntWalk.i64_in _ (by omega)
              clear hpa
              have hb1 : b1 + 1 ≤ b ∧ b ≤ b1 + 1 ∧ pa + a ≤ p ∧ p ≤ pa + a := by have := H_b1.out; have := H_pa.out; omega
              obtain ⟨pp, hpp⟩ : ∃ q : Nat, q = b1 - pa := ⟨_, rfl⟩
              have H_pp := Lib.hid hpp
              have e_pp : (b1 : Int) - (pa : Int) = (pp : Int) := by omega
              have w_pp : IntKind.i64.wrap (pp : Int) = (pp : Int) := IntWalk.i64_in _ (by omega)
              clear hpp
              go_wp2_with fail
              refine (revS HC HS1.out a b (by omega) hb).mono ?_
              rintro e W2 ⟨rfl, hs2⟩
              have HS2 := Lib.hid hs2
              clear hs2
              go_wp2_with fail
              go_meet
              exact ⟨pp, 1, by have := H_pp.out; omega, by have := H_pp.out; omega, rfl, rfl, HS2.out⟩
            · have hh2 : (h == 2) = false := by simp [hh]
              go_wp2_with fail
              go_meet
              exact ⟨p, h, hpa, hpb, rfl, rfl, HS1.out⟩
          case rest =>
            rename World => wB
            clear HS1 hpa hpb
            obtain ⟨p, h, hpa, hpb, rfl, rfl, hs⟩ := hcut
            have HSB := Lib.hid hs
            clear hs
            go_upto_region 15 with fail
            go_cut [75] from 68 to 76 (fun v wx => ∃ z : Bool, v = .bool z ∧ Srd g n cap ss0 w0 wx)
            case first =>
              cases x <;> cases y <;> (go_wp2_with fail; go_meet; exact ⟨_, rfl, HSB.out⟩)
            case rest =>
              rename World => wC
              clear HSB
              obtain ⟨z, rfl, hs⟩ := hcut
              have HSC := Lib.hid hs
              clear hs
              go_upto_if 75 with fail
              go_cut [] from 76 to 81 (fun wx => Srd g n cap ss0 w0 wx)
              case first =>
                cases z with
                | false =>
                  go_wp2_with fail
                  go_meet
                  exact HSC.out
                | true =>
                  go_wp2_with fail
                  refine (pisS HC HSC.out a b (by omega) hb).mono ?_
                  rintro e W2 ⟨z2, rfl, hs2⟩
                  have HS2 := Lib.hid hs2
                  clear hs2
                  cases z2 with
                  | true =>
                    go_wp2
                    refine bodyPost_ret (results_none rfl _ _ _) rfl ?_
                    exact ⟨rfl, HS2.out⟩
                  | false =>
                    go_wp2_with fail
                    go_meet
                    exact HS2.out
              case rest =>
                rename World => wD
                clear HSC
                have hs := hcut
                clear hcut
                have hpn : p < n := by omega
                have qpn : (p : Int) < (n : Int) := by omega
                go_upto_region 17 with fail
                go_cut [97] from 81 to 98 (fun v wx => ∃ z : Bool, v = .bool z ∧ Srd g n cap ss0 w0 wx)
                case first =>
                  by_cases ha0 : 0 < a
                  · have q4 : decide ((a : Int) > 0) = true := decide_eq_true (by omega)
                    have q3 : (a : Int) > 0 := by omega
                    obtain ⟨am, ham⟩ : ∃ q : Nat, q = a - 1 := ⟨_, rfl⟩
                    have H_am := Lib.hid ham
                    have e_am : (a : Int) - 1 = (am : Int) := by omega
                    have w_am : IntKind.i64.wrap (am : Int) = (am : Int) := IntWalk.i64_in _ (by omega)
                    have l_am : am < n := by omega
                    have k_am : (am : Int) < (n : Int) := by omega
                    clear ham
                    obtain ⟨ssA, hpA, hrA, hmA⟩ := hs
                    obtain ⟨xA, hxA⟩ : ∃ x, ssA[am]? = some x := ⟨_, List.getElem?_eq_getElem (by rw [Srt.len hrA]; omega)⟩
                    obtain ⟨yA, hyA⟩ : ∃ x, ssA[p]? = some x := ⟨_, List.getElem?_eq_getElem (by rw [Srt.len hrA]; omega)⟩
                    have hSA : wD.drew.cell? ⟨g, am, none⟩ = some (.string xA) ∧ wD.drew.cell? ⟨g, p, none⟩ = some (.string yA) := ⟨Srt.cell hrA hxA, Srt.cell hrA hyA⟩
                    have hcA := HC.out.cmp wD.drew xA yA hmA.drew (hpA.mem_iff.1 (List.mem_of_getElem? hxA)) (hpA.mem_iff.1 (List.mem_of_getElem? hyA))
                    have HSA := Lib.hid (Srt.mk' hpA hrA hmA)
                    have HCA := Lib.hid hcA
                    clear hpA hrA hmA hxA hyA hcA
                    refine wp_region_plan [13] [(0, 0), (1, 0), (2, 0), (3, 0), (4, 0), (5, 0), (6, 0), (7, 0), (8, 1), (9, 0), (10, 0), (11, 0), (12, 1), (13, 3), (14, 0), (15, 0), (16, 0)] (fun w' : World => w'.cell? ⟨g, am, none⟩ = some (.string xA) ∧ w'.cell? ⟨g, p, none⟩ = some (.string yA)) (by kernel_rfl) (by kernel_rfl) (fun d v c a w h => by first | (cases d <;> exact h) | exact HP d v c a w h) ?_
                    repeat ((first | refine plan_skip rfl rfl ?_ | refine plan_pass2 rfl rfl ?_ | refine plan_pass3 rfl rfl ?_ | (refine plan_take (v := ?_) rfl rfl ?_ ?_; rotate_left; focus (intro w0; go_simp; try with_reducible rfl)) | (refine plan_held (v := ?_) rfl rfl hSA ?_ ?_; rotate_left; focus (intro w0 hSw; (try dsimp only at hSw); go_split_ands; go_simp; try with_reducible rfl)) | refine plan_skip1 rfl rfl hSA ?_); simp only [List.getElem_toArray, List.getElem_cons_succ, List.getElem_cons_zero, Act.put, List.setIfInBounds_toArray, List.set_cons_zero, List.set_cons_succ])
                    (refine plan_end rfl rfl rfl fun K hK => ?_; (try simp only [List.getElem_toArray, List.getElem_cons_succ, List.getElem_cons_zero]))
                    go_simp
                    refine HCA.out.mono ?_
                    rintro e W2 ⟨⟨rA, rfl⟩, hmA⟩
                    have hs2 : Srd g n cap ss0 w0 W2 := HSA.out.calm ((Mod.refl _ _).drew.trans hmA fun _ f => f.elim)
                    refine hK _ _ ?_
                    clear hK K hSA HSA HCA hmA
                    try simp only [List.getElem_toArray, List.getElem_cons_succ, List.getElem_cons_zero, Act.put, List.setIfInBounds_toArray, List.set_cons_zero, List.set_cons_succ]
                    have HS2 := Lib.hid hs2
                    clear hs2
                    by_cases hr : rA < 0
                    · have hd : decide (rA < 0) = true := decide_eq_true hr
                      repeat ((first | refine plan_skip rfl rfl ?_ | refine plan_pass2 rfl rfl ?_ | refine plan_pass3 rfl rfl ?_ | (refine plan_take (v := ?_) rfl rfl ?_ ?_; rotate_left; focus (intro w0; go_simp; try with_reducible rfl))); simp only [List.getElem_toArray, List.getElem_cons_succ, List.getElem_cons_zero, Act.put, List.setIfInBounds_toArray, List.set_cons_zero, List.set_cons_succ])
                      refine plan_nil ?_
                      go_wp2_with fail
                      go_meet
                      exact ⟨_, rfl, HS2.out⟩
                    · have hd : decide (rA < 0) = false := decide_eq_false hr
                      repeat ((first | refine plan_skip rfl rfl ?_ | refine plan_pass2 rfl rfl ?_ | refine plan_pass3 rfl rfl ?_ | (refine plan_take (v := ?_) rfl rfl ?_ ?_; rotate_left; focus (intro w0; go_simp; try with_reducible rfl))); simp only [List.getElem_toArray, List.getElem_cons_succ, List.getElem_cons_zero, Act.put, List.setIfInBounds_toArray, List.set_cons_zero, List.set_cons_succ])
                      refine plan_nil ?_
                      go_wp2_with fail
                      go_meet
                      exact ⟨_, rfl, HS2.out⟩
                  · have q4 : decide ((a : Int) > 0) = false := decide_eq_false (by omega)
                    have q3 : ¬ (a : Int) > 0 := by omega
                    have HS2 := Lib.hid hs.drew
                    clear hs
                    refine wp_region_plan [13] [(0, 0), (1, 0), (2, 0), (3, 0), (4, 0), (5, 0), (6, 0), (7, 0), (8, 1), (9, 0), (10, 0), (11, 0), (12, 1), (13, 3), (14, 0), (15, 0), (16, 0)] (fun w' : World => True) (by kernel_rfl) (by kernel_rfl) (fun d v c a w h => by first | (cases d <;> exact h) | exact HP d v c a w h) ?_
                    repeat ((first | refine plan_skip rfl rfl ?_ | refine plan_pass2 rfl rfl ?_ | refine plan_pass3 rfl rfl ?_ | (refine plan_take (v := ?_) rfl rfl ?_ ?_; rotate_left; focus (intro w0; go_simp; try with_reducible rfl)) | (refine plan_held (v := ?_) rfl rfl trivial ?_ ?_; rotate_left; focus (intro w0 hSw; (try dsimp only at hSw); go_split_ands; go_simp; try with_reducible rfl)) | refine plan_skip1 rfl rfl trivial ?_); simp only [List.getElem_toArray, List.getElem_cons_succ, List.getElem_cons_zero, Act.put, List.setIfInBounds_toArray, List.set_cons_zero, List.set_cons_succ])
                    refine plan_nil ?_
                    go_wp2_with fail
                    go_meet
                    exact ⟨_, rfl, HS2.out⟩
                case rest =>
                  rename World => wE
                  clear hs
                  obtain ⟨z3, rfl, hs⟩ := hcut
                  have HSE := Lib.hid hs
                  clear hs
                  cases z3 with
                  | true =>
                    go_wp2_with fail
                    refine (peqS HC HSE.out a b p (by omega) hb hpa hpb).mono ?_
                    rintro e W3 ⟨m, hm1, hm2, rfl, hs3⟩
                    have HS3 := Lib.hid hs3
                    clear hs3
                    go_wp2
                    go_roundw
                    case rel => exact ⟨m, b, l', x, y, hm2, hb, by omega, hl', rfl, rfl, rfl, rfl, rfl, HS3.out⟩
                    case measure => simp [intOf]; omega
                  | false =>
                    go_wp2_with fail
                    refine (parS HC HSE.out a b p (by omega) hb hpa hpb).mono ?_
                    rintro e W3 ⟨m, z4, hm1, hm2, rfl, hs3⟩
                    have HS3 := Lib.hid hs3
                    clear hs3
                    obtain ⟨ll, hll⟩ : ∃ q : Nat, q = m - a := ⟨_, rfl⟩
                    have H_ll := Lib.hid hll
                    have e_ll : (m : Int) - (a : Int) = (ll : Int) := by omega
                    have w_ll : IntKind.i64.wrap (ll : Int) = (ll : Int) := IntWalk.i64_in _ (by omega)
                    clear hll
                    obtain ⟨rl, hrl⟩ : ∃ q : Nat, q = b - m := ⟨_, rfl⟩
                    have H_rl := Lib.hid hrl
                    have e_rl : (b : Int) - (m : Int) = (rl : Int) := by omega
                    have w_rl : IntKind.i64.wrap (rl : Int) = (rl : Int) := IntWalk.i64_in _ (by omega)
                    clear hrl
                    obtain ⟨L8, hL8⟩ : ∃ q : Nat, q = L / 8 := ⟨_, rfl⟩
                    have H_L8 := Lib.hid hL8
                    have w_L8 : IntKind.i64.wrap (L8 : Int) = (L8 : Int) := IntWalk.i64_in _ (by omega)
                    clear hL8
                    have e_L8 : ((L : Nat) : Int).tdiv 8 = (L8 : Int) := by rw [H_L8.out]; exact Int.ofNat_tdiv L 8 |>.symm
                    obtain ⟨m1, hm1⟩ : ∃ q : Nat, q = m + 1 := ⟨_, rfl⟩
                    have H_m1 := Lib.hid hm1
                    have e_m1 : (m : Int) + 1 = (m1 : Int) := by omega
                    have w_m1 : IntKind.i64.wrap (m1 : Int) = (m1 : Int) := IntWalk.i64_in _ (by omega)
                    clear hm1
                    have hm1' : m1 ≤ m + 1 ∧ m + 1 ≤ m1 := by have := H_m1.out; omega
                    by_cases hlr : ll < rl
                    · have qlr : (ll : Int) < (rl : Int) := by omega
                      go_wp2_with fail
                      refine (IH.out W3 a m l' HS3.out hm1 (by omega) (by omega) hl').mono ?_
                      rintro e W4 ⟨rfl, hs4⟩
                      have HS4 := Lib.hid hs4
                      clear hs4
                      go_wp2
                      go_roundw
                      case rel => exact ⟨m1, b, l', _, z4, by omega, hb, by omega, hl', rfl, rfl, rfl, rfl, rfl, HS4.out⟩
                      case measure => simp [intOf]; omega
                    · have qlr : ¬ (ll : Int) < (rl : Int) := by omega
                      go_wp2_with fail
                      refine (IH.out W3 m1 b l' HS3.out (by omega) hb (by omega) hl').mono ?_
                      rintro e W4 ⟨rfl, hs4⟩
                      have HS4 := Lib.hid hs4
                      clear hs4
                      go_wp2
                      go_roundw
                      case rel => exact ⟨a, m, l', _, z4, hm1, by omega, by omega, hl', rfl, rfl, rfl, rfl, rfl, HS4.out⟩
                      case measure => simp [intOf]; omega
theorem pdqS (HC : Hid (SCx c g n cap ss0 w0)) : ∀ (D : Nat) (W : World) (a b l : Nat), Srd g n cap ss0 w0 W → a ≤ b → b ≤ n → b - a < D → l ≤ 64 → Calls Tryz.prog 168 #[.slice (some ⟨g, 0, none⟩) n cap, .int .i64 (a : Int), .int .i64 (b : Int), .int .i64 (l : Int), .func (.func 102) #[.pointer (some ⟨c, 0, none⟩)] #[]] W fun e W' => e = .returned (.tuple #[]) ∧ Srd g n cap ss0 w0 W'
  | 0, _, _, _, _, _, _, _, h, _ => absurd h (Nat.not_lt_zero _)
  | D + 1, W, a, b, l, hS, hab, hb, hD, hl => pdq_step HC D (Lib.hid (pdqS HC D)) hS a b l hab hb (by omega) hl
end
end Go.Proofs.YtcccdlmngddalaaGreat
