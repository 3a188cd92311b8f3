/- .. siftDown, heapSort. (Printed by gen_sort.py.) -/
import Derived.Test.YtcccdlmngddalaaGreatGrSa
set_option linter.unusedVariables false
set_option linter.unusedSimpArgs false
namespace Go.Proofs.YtcccdlmngddalaaGreat
open Go.RowKit
section
variable {c g n cap : Nat} {ss0 : List ByteArray} {w0 : World}
set_option maxRecDepth 100000 in
set_option maxHeartbeats 4000000 in
theorem sftS (HC : Hid (SCx c g n cap ss0 w0)) {W : World} (hS : Srd g n cap ss0 w0 W) (lo hi first : Nat) (hlo : lo ≤ n) (hhi : first + hi ≤ n) :
    Calls Tryz.prog 196 #[.slice (some ⟨g, 0, none⟩) n cap, .int .i64 (lo : Int), .int .i64 (hi : Int), .int .i64 (first : Int), .func (.func 102) #[.pointer (some ⟨c, 0, none⟩)] #[]] W fun e W' => e = .returned (.tuple #[]) ∧ Srd g n cap ss0 w0 W' := by
  have hn4 := HC.out.n4
  have HS := Lib.hid hS
  clear hS
  go_enter Tryz.func196, Tryz.ntmps196
  go_wp2_with fail
  go_loopw [10] (fun iv wr => ∃ r : Nat, r ≤ n ∧ iv = .int .i64 (r : Int) ∧ Srd g n cap ss0 w0 wr) (fun iv _ => hi - (intOf iv).toNat)
  case atStart => exact ⟨lo, hlo, rfl, HS.out⟩
  case round =>
    obtain ⟨r, hrn, rfl, hs⟩ := hrel
    clear HS
    have HSI := Lib.hid hs
    clear hs
    have w_r : IntKind.i64.wrap (2 * (r : Int)) = 2 * (r : Int) := IntWalk.i64_in _ (by omega)
    obtain ⟨ch, hch⟩ : ∃ q : Nat, q = 2 * r + 1 := ⟨_, rfl⟩
    have H_ch := Lib.hid hch
    have e_ch : 2 * (r : Int) + 1 = (ch : Int) := by omega
    have w_ch : IntKind.i64.wrap (ch : Int) = (ch : Int) := IntWalk.i64_in _ (by omega)
    clear hch
    have hrc : r < ch := by have := H_ch.out; omega
    by_cases hch : ch < hi
    · have hci : ¬ (ch : Int) ≥ (hi : Int) := by omega
      obtain ⟨p, hp⟩ : ∃ q : Nat, q = first + r := ⟨_, rfl⟩
      have H_p := Lib.hid hp
      have e_p : (first : Int) + (r : Int) = (p : Int) := by omega
      have w_p : IntKind.i64.wrap (p : Int) = (p : Int) := IntWalk.i64_in _ (by omega)
      have l_p : p < n := by omega
      have k_p : (p : Int) < (n : Int) := by omega
      clear hp
      obtain ⟨c1, hc1⟩ : ∃ q : Nat, q = ch + 1 := ⟨_, rfl⟩
      have H_c1 := Lib.hid hc1
      have e_c1 : (ch : Int) + 1 = (c1 : Int) := by omega
      have w_c1 : IntKind.i64.wrap (c1 : Int) = (c1 : Int) := IntWalk.i64_in _ (by omega)
      clear hc1
      obtain ⟨pa, hpa⟩ : ∃ q : Nat, q = first + ch := ⟨_, rfl⟩
      have H_pa := Lib.hid hpa
      have e_pa : (first : Int) + (ch : Int) = (pa : Int) := by omega
      have w_pa : IntKind.i64.wrap (pa : Int) = (pa : Int) := IntWalk.i64_in _ (by omega)
      have l_pa : pa < n := by omega
      have k_pa : (pa : Int) < (n : Int) := by omega
      clear hpa
      go_wp2_with fail
      by_cases h1 : c1 < hi
      · have q1 : decide ((c1 : Int) < (hi : Int)) = true := decide_eq_true (by omega)
        have q2 : (c1 : Int) < (hi : Int) := by omega
        have h1' := H_c1.out
        have h2' := H_pa.out
        obtain ⟨pb, hpb⟩ : ∃ q : Nat, q = pa + 1 := ⟨_, rfl⟩
        have H_pb := Lib.hid hpb
        have e_pb : (pa : Int) + 1 = (pb : Int) := by omega
        have w_pb : IntKind.i64.wrap (pb : Int) = (pb : Int) := IntWalk.i64_in _ (by omega)
        have l_pb : pb < n := by omega
        have k_pb : (pb : Int) < (n : Int) := by omega
        clear hpb
        have e_pb2 : (first : Int) + (c1 : Int) = (pb : Int) := by have := H_pb.out; omega
        clear h1' h2'
        have hs := HSI.out
        obtain ⟨ssA, hpA, hrA, hmA⟩ := hs
        obtain ⟨xA, hxA⟩ : ∃ x, ssA[pa]? = some x := ⟨_, List.getElem?_eq_getElem (by rw [Srt.len hrA]; omega)⟩
        obtain ⟨yA, hyA⟩ : ∃ x, ssA[pb]? = some x := ⟨_, List.getElem?_eq_getElem (by rw [Srt.len hrA]; omega)⟩
        have hSA : wr.drew.cell? ⟨g, pa, none⟩ = some (.string xA) ∧ wr.drew.cell? ⟨g, pb, none⟩ = some (.string yA) := ⟨Srt.cell hrA hxA, Srt.cell hrA hyA⟩
        have hcA := HC.out.cmp wr.drew xA yA hmA.drew (hpA.mem_iff.1 (List.mem_of_getElem? hxA)) (hpA.mem_iff.1 (List.mem_of_getElem? hyA))
        have HSA := Lib.hid (Srt.mk' hpA hrA hmA)
        have HCA := Lib.hid hcA
        clear hpA hrA hmA hxA hyA hcA
        refine wp_region_plan [19] [(0, 0), (1, 0), (2, 0), (3, 0), (4, 0), (5, 0), (6, 0), (7, 0), (8, 0), (9, 0), (10, 0), (11, 1), (12, 0), (13, 0), (14, 0), (15, 0), (16, 0), (17, 0), (18, 1), (19, 3), (20, 0), (21, 0)] (fun w' : World => w'.cell? ⟨g, pa, none⟩ = some (.string xA) ∧ w'.cell? ⟨g, pb, none⟩ = some (.string yA)) (by kernel_rfl) (by kernel_rfl) (fun d v c a w h => by first | (cases d <;> exact h) | exact HP d v c a w h) ?_
        repeat ((first | refine plan_skip rfl rfl ?_ | refine plan_pass2 rfl rfl ?_ | refine plan_pass3 rfl rfl ?_ | (refine plan_take (v := ?_) rfl rfl ?_ ?_; rotate_left; focus (intro w0; go_simp; try with_reducible rfl)) | (refine plan_held (v := ?_) rfl rfl hSA ?_ ?_; rotate_left; focus (intro w0 hSw; (try dsimp only at hSw); go_split_ands; go_simp; try with_reducible rfl)) | refine plan_skip1 rfl rfl hSA ?_); simp only [nA, nB, nC, Act.put, nD, nE, nF])
        (refine plan_end rfl rfl rfl fun K hK => ?_; (try simp only [nA, nB, nC]))
        go_simp
        refine HCA.out.mono ?_
        rintro e W1 ⟨⟨rA, rfl⟩, hmA⟩
        have hs1 : Srd g n cap ss0 w0 W1 := HSA.out.calm ((Mod.refl _ _).drew.trans hmA fun _ f => f.elim)
        refine hK _ _ ?_
        clear hK K hSA HSA HCA hmA
        try simp only [nA, nB, nC, Act.put, nD, nE, nF]
        by_cases hr1 : rA < 0
        · have hd : decide (rA < 0) = true := decide_eq_true hr1
          repeat ((first | refine plan_skip rfl rfl ?_ | refine plan_pass2 rfl rfl ?_ | refine plan_pass3 rfl rfl ?_ | (refine plan_take (v := ?_) rfl rfl ?_ ?_; rotate_left; focus (intro w0; go_simp; try with_reducible rfl))); simp only [nA, nB, nC, Act.put, nD, nE, nF])
          refine plan_nil ?_
          clear hd hr1
          have hs := hs1
          clear hs1
          have HPB := pb
          go_wp2_with fail
          obtain ⟨ssA, hpA, hrA, hmA⟩ := hs
          obtain ⟨xA, hxA⟩ : ∃ x, ssA[p]? = some x := ⟨_, List.getElem?_eq_getElem (by rw [Srt.len hrA]; omega)⟩
          obtain ⟨yA, hyA⟩ : ∃ x, ssA[pb]? = some x := ⟨_, List.getElem?_eq_getElem (by rw [Srt.len hrA]; omega)⟩
          have hSA : W1.drew.cell? ⟨g, p, none⟩ = some (.string xA) ∧ W1.drew.cell? ⟨g, pb, none⟩ = some (.string yA) := ⟨Srt.cell hrA hxA, Srt.cell hrA hyA⟩
          have hcA := HC.out.cmp W1.drew xA yA hmA.drew (hpA.mem_iff.1 (List.mem_of_getElem? hxA)) (hpA.mem_iff.1 (List.mem_of_getElem? hyA))
          have HSA := Lib.hid (Srt.mk' hpA hrA hmA)
          have HCA := Lib.hid hcA
          clear hpA hrA hmA hxA hyA hcA
          refine wp_region_plan [13] [(0, 0), (1, 0), (2, 0), (3, 0), (4, 0), (5, 0), (6, 1), (7, 0), (8, 0), (9, 0), (10, 0), (11, 0), (12, 1), (13, 3), (14, 0), (15, 0)] (fun w' : World => w'.cell? ⟨g, p, none⟩ = some (.string xA) ∧ w'.cell? ⟨g, pb, none⟩ = some (.string yA)) (by kernel_rfl) (by kernel_rfl) (fun d v c a w h => by first | (cases d <;> exact h) | exact HP d v c a w h) ?_
          repeat ((first | refine plan_skip rfl rfl ?_ | refine plan_pass2 rfl rfl ?_ | refine plan_pass3 rfl rfl ?_ | (refine plan_take (v := ?_) rfl rfl ?_ ?_; rotate_left; focus (intro w0; go_simp; try with_reducible rfl)) | (refine plan_held (v := ?_) rfl rfl hSA ?_ ?_; rotate_left; focus (intro w0 hSw; (try dsimp only at hSw); go_split_ands; go_simp; try with_reducible rfl)) | refine plan_skip1 rfl rfl hSA ?_); simp only [nA, nB, nC, Act.put, nD, nE, nF])
          (refine plan_end rfl rfl rfl fun K hK => ?_; (try simp only [nA, nB, nC]))
          go_simp
          refine HCA.out.mono ?_
          rintro e W2 ⟨⟨rA, rfl⟩, hmA⟩
          have hs2 : Srd g n cap ss0 w0 W2 := HSA.out.calm ((Mod.refl _ _).drew.trans hmA fun _ f => f.elim)
          refine hK _ _ ?_
          clear hK K hSA HSA HCA hmA
          try simp only [nA, nB, nC, Act.put, nD, nE, nF]
          by_cases hr : rA < 0
          · have hd : decide (rA < 0) = true := decide_eq_true hr
            repeat ((first | refine plan_skip rfl rfl ?_ | refine plan_pass2 rfl rfl ?_ | refine plan_pass3 rfl rfl ?_ | (refine plan_take (v := ?_) rfl rfl ?_ ?_; rotate_left; focus (intro w0; go_simp; try with_reducible rfl))); simp only [nA, nB, nC, Act.put, nD, nE, nF])
            refine plan_nil ?_
            go_wp2_with fail
            obtain ⟨ssA, hpA, hrA, hmA⟩ := hs2
            obtain ⟨xA, hxA⟩ : ∃ x, ssA[p]? = some x := ⟨_, List.getElem?_eq_getElem (by rw [Srt.len hrA]; omega)⟩
            obtain ⟨yA, hyA⟩ : ∃ x, ssA[pb]? = some x := ⟨_, List.getElem?_eq_getElem (by rw [Srt.len hrA]; omega)⟩
            have hSA : W2.drew.cell? ⟨g, p, none⟩ = some (.string xA) ∧ W2.drew.cell? ⟨g, pb, none⟩ = some (.string yA) := ⟨Srt.cell hrA hxA, Srt.cell hrA hyA⟩
            have HPA := Lib.hid hpA
            have HRA := Lib.hid hrA
            have HMA := Lib.hid hmA
            have HXA := Lib.hid hxA
            have HYA := Lib.hid hyA
            clear hpA hrA hmA hxA hyA
            refine wp_region_plan [21, 23] [(0, 0), (1, 0), (2, 0), (3, 0), (4, 0), (5, 0), (6, 0), (7, 0), (8, 0), (9, 0), (10, 0), (11, 0), (12, 0), (13, 1), (14, 0), (15, 0), (16, 0), (17, 0), (18, 0), (19, 1), (20, 0), (21, 3), (22, 0), (23, 3)] (fun w' : World => w'.cell? ⟨g, p, none⟩ = some (.string xA) ∧ w'.cell? ⟨g, pb, none⟩ = some (.string yA)) (by kernel_rfl) (by kernel_rfl) (fun d v c a w h => by first | (cases d <;> exact h) | exact HP d v c a w h) ?_
            repeat ((first | refine plan_skip rfl rfl ?_ | refine plan_pass2 rfl rfl ?_ | refine plan_pass3 rfl rfl ?_ | (refine plan_take (v := ?_) rfl rfl ?_ ?_; rotate_left; focus (intro w0; go_simp; try with_reducible rfl)) | (refine plan_held (v := ?_) rfl rfl hSA ?_ ?_; rotate_left; focus (intro w0 hSw; (try dsimp only at hSw); go_split_ands; go_simp; try with_reducible rfl)) | refine plan_skip1 rfl rfl hSA ?_); simp only [nA, nB, nC, Act.put, nD, nE, nF])
            (refine plan_end rfl rfl rfl fun K hK => ?_; (try simp only [nA, nB, nC]))
            refine wp_store_row1 9 _ _ rfl (Row.drew HRA.out) g (p) (.string yA) rfl rfl rfl (by rw [Srt.len' HRA.out]; omega) sSz rfl ?_
            intro W3 HR3 HM3
            refine hK _ _ ?_
            clear hK K hSA
            try simp only [nA, nB, nC, Act.put, nD, nE, nF]
            repeat ((first | refine plan_skip rfl rfl ?_ | refine plan_pass2 rfl rfl ?_ | refine plan_pass3 rfl rfl ?_ | (refine plan_take (v := ?_) rfl rfl ?_ ?_; rotate_left; focus (intro w0; go_simp; try with_reducible rfl))); simp only [nA, nB, nC, Act.put, nD, nE, nF])
            (refine plan_end rfl rfl rfl fun K hK => ?_; (try simp only [nA, nB, nC]))
            refine wp_store_row1 9 _ _ rfl HR3.out g (pb) (.string xA) rfl rfl rfl (by rw [List.length_set, Srt.len' HRA.out]; omega) sSz rfl ?_
            intro W4 HR4 HM4
            refine hK _ _ ?_
            clear hK K
            try simp only [nA, nB, nC, Act.put, nD, nE, nF]
            refine plan_nil ?_
            have hs4 : Srd g n cap ss0 w0 W4 := Srt.swap HPA.out HRA.out HMA.out HXA.out HYA.out HR4.out (((Mod.refl _ _).drew.trans HM3.out fun q hq => .inl hq).trans HM4.out fun q hq => .inl hq)
            clear HPA HRA HMA HXA HYA HR3 HM3 HR4 HM4
            have HS4 := Lib.hid hs4
            clear hs4
            go_wp2
            go_roundw
            case rel => exact ⟨c1, by omega, rfl, HS4.out⟩
            case measure => have h1 := H_ch.out; simp [intOf]; omega
          · have hd : decide (rA < 0) = false := decide_eq_false hr
            repeat ((first | refine plan_skip rfl rfl ?_ | refine plan_pass2 rfl rfl ?_ | refine plan_pass3 rfl rfl ?_ | (refine plan_take (v := ?_) rfl rfl ?_ ?_; rotate_left; focus (intro w0; go_simp; try with_reducible rfl))); simp only [nA, nB, nC, Act.put, nD, nE, nF])
            refine plan_nil ?_
            have HS2 := Lib.hid hs2
            clear hs2
            go_wp2
            refine bodyPost_ret (results_none rfl _ _ _) rfl ?_
            exact ⟨rfl, HS2.out⟩
        · have hd : decide (rA < 0) = false := decide_eq_false hr1
          repeat ((first | refine plan_skip rfl rfl ?_ | refine plan_pass2 rfl rfl ?_ | refine plan_pass3 rfl rfl ?_ | (refine plan_take (v := ?_) rfl rfl ?_ ?_; rotate_left; focus (intro w0; go_simp; try with_reducible rfl))); simp only [nA, nB, nC, Act.put, nD, nE, nF])
          refine plan_nil ?_
          clear hd hr1
          have hs := hs1
          clear hs1
          go_wp2_with fail
          obtain ⟨ssA, hpA, hrA, hmA⟩ := hs
          obtain ⟨xA, hxA⟩ : ∃ x, ssA[p]? = some x := ⟨_, List.getElem?_eq_getElem (by rw [Srt.len hrA]; omega)⟩
          obtain ⟨yA, hyA⟩ : ∃ x, ssA[pa]? = some x := ⟨_, List.getElem?_eq_getElem (by rw [Srt.len hrA]; omega)⟩
          have hSA : W1.drew.cell? ⟨g, p, none⟩ = some (.string xA) ∧ W1.drew.cell? ⟨g, pa, none⟩ = some (.string yA) := ⟨Srt.cell hrA hxA, Srt.cell hrA hyA⟩
          have hcA := HC.out.cmp W1.drew xA yA hmA.drew (hpA.mem_iff.1 (List.mem_of_getElem? hxA)) (hpA.mem_iff.1 (List.mem_of_getElem? hyA))
          have HSA := Lib.hid (Srt.mk' hpA hrA hmA)
          have HCA := Lib.hid hcA
          clear hpA hrA hmA hxA hyA hcA
          refine wp_region_plan [13] [(0, 0), (1, 0), (2, 0), (3, 0), (4, 0), (5, 0), (6, 1), (7, 0), (8, 0), (9, 0), (10, 0), (11, 0), (12, 1), (13, 3), (14, 0), (15, 0)] (fun w' : World => w'.cell? ⟨g, p, none⟩ = some (.string xA) ∧ w'.cell? ⟨g, pa, none⟩ = some (.string yA)) (by kernel_rfl) (by kernel_rfl) (fun d v c a w h => by first | (cases d <;> exact h) | exact HP d v c a w h) ?_
          repeat ((first | refine plan_skip rfl rfl ?_ | refine plan_pass2 rfl rfl ?_ | refine plan_pass3 rfl rfl ?_ | (refine plan_take (v := ?_) rfl rfl ?_ ?_; rotate_left; focus (intro w0; go_simp; try with_reducible rfl)) | (refine plan_held (v := ?_) rfl rfl hSA ?_ ?_; rotate_left; focus (intro w0 hSw; (try dsimp only at hSw); go_split_ands; go_simp; try with_reducible rfl)) | refine plan_skip1 rfl rfl hSA ?_); simp only [nA, nB, nC, Act.put, nD, nE, nF])
          (refine plan_end rfl rfl rfl fun K hK => ?_; (try simp only [nA, nB, nC]))
          go_simp
          refine HCA.out.mono ?_
          rintro e W2 ⟨⟨rA, rfl⟩, hmA⟩
          have hs2 : Srd g n cap ss0 w0 W2 := HSA.out.calm ((Mod.refl _ _).drew.trans hmA fun _ f => f.elim)
          refine hK _ _ ?_
          clear hK K hSA HSA HCA hmA
          try simp only [nA, nB, nC, Act.put, nD, nE, nF]
          by_cases hr : rA < 0
          · have hd : decide (rA < 0) = true := decide_eq_true hr
            repeat ((first | refine plan_skip rfl rfl ?_ | refine plan_pass2 rfl rfl ?_ | refine plan_pass3 rfl rfl ?_ | (refine plan_take (v := ?_) rfl rfl ?_ ?_; rotate_left; focus (intro w0; go_simp; try with_reducible rfl))); simp only [nA, nB, nC, Act.put, nD, nE, nF])
            refine plan_nil ?_
            go_wp2_with fail
            obtain ⟨ssA, hpA, hrA, hmA⟩ := hs2
            obtain ⟨xA, hxA⟩ : ∃ x, ssA[p]? = some x := ⟨_, List.getElem?_eq_getElem (by rw [Srt.len hrA]; omega)⟩
            obtain ⟨yA, hyA⟩ : ∃ x, ssA[pa]? = some x := ⟨_, List.getElem?_eq_getElem (by rw [Srt.len hrA]; omega)⟩
            have hSA : W2.drew.cell? ⟨g, p, none⟩ = some (.string xA) ∧ W2.drew.cell? ⟨g, pa, none⟩ = some (.string yA) := ⟨Srt.cell hrA hxA, Srt.cell hrA hyA⟩
            have HPA := Lib.hid hpA
            have HRA := Lib.hid hrA
            have HMA := Lib.hid hmA
            have HXA := Lib.hid hxA
            have HYA := Lib.hid hyA
            clear hpA hrA hmA hxA hyA
            refine wp_region_plan [21, 23] [(0, 0), (1, 0), (2, 0), (3, 0), (4, 0), (5, 0), (6, 0), (7, 0), (8, 0), (9, 0), (10, 0), (11, 0), (12, 0), (13, 1), (14, 0), (15, 0), (16, 0), (17, 0), (18, 0), (19, 1), (20, 0), (21, 3), (22, 0), (23, 3)] (fun w' : World => w'.cell? ⟨g, p, none⟩ = some (.string xA) ∧ w'.cell? ⟨g, pa, none⟩ = some (.string yA)) (by kernel_rfl) (by kernel_rfl) (fun d v c a w h => by first | (cases d <;> exact h) | exact HP d v c a w h) ?_
            repeat ((first | refine plan_skip rfl rfl ?_ | refine plan_pass2 rfl rfl ?_ | refine plan_pass3 rfl rfl ?_ | (refine plan_take (v := ?_) rfl rfl ?_ ?_; rotate_left; focus (intro w0; go_simp; try with_reducible rfl)) | (refine plan_held (v := ?_) rfl rfl hSA ?_ ?_; rotate_left; focus (intro w0 hSw; (try dsimp only at hSw); go_split_ands; go_simp; try with_reducible rfl)) | refine plan_skip1 rfl rfl hSA ?_); simp only [nA, nB, nC, Act.put, nD, nE, nF])
            (refine plan_end rfl rfl rfl fun K hK => ?_; (try simp only [nA, nB, nC]))
            refine wp_store_row1 9 _ _ rfl (Row.drew HRA.out) g (p) (.string yA) rfl rfl rfl (by rw [Srt.len' HRA.out]; omega) sSz rfl ?_
            intro W3 HR3 HM3
            refine hK _ _ ?_
            clear hK K hSA
            try simp only [nA, nB, nC, Act.put, nD, nE, nF]
            repeat ((first | refine plan_skip rfl rfl ?_ | refine plan_pass2 rfl rfl ?_ | refine plan_pass3 rfl rfl ?_ | (refine plan_take (v := ?_) rfl rfl ?_ ?_; rotate_left; focus (intro w0; go_simp; try with_reducible rfl))); simp only [nA, nB, nC, Act.put, nD, nE, nF])
            (refine plan_end rfl rfl rfl fun K hK => ?_; (try simp only [nA, nB, nC]))
            refine wp_store_row1 9 _ _ rfl HR3.out g (pa) (.string xA) rfl rfl rfl (by rw [List.length_set, Srt.len' HRA.out]; omega) sSz rfl ?_
            intro W4 HR4 HM4
            refine hK _ _ ?_
            clear hK K
            try simp only [nA, nB, nC, Act.put, nD, nE, nF]
            refine plan_nil ?_
            have hs4 : Srd g n cap ss0 w0 W4 := Srt.swap HPA.out HRA.out HMA.out HXA.out HYA.out HR4.out (((Mod.refl _ _).drew.trans HM3.out fun q hq => .inl hq).trans HM4.out fun q hq => .inl hq)
            clear HPA HRA HMA HXA HYA HR3 HM3 HR4 HM4
            have HS4 := Lib.hid hs4
            clear hs4
            go_wp2
            go_roundw
            case rel => exact ⟨ch, by omega, rfl, HS4.out⟩
            case measure => have h1 := H_ch.out; simp [intOf]; omega
          · have hd : decide (rA < 0) = false := decide_eq_false hr
            repeat ((first | refine plan_skip rfl rfl ?_ | refine plan_pass2 rfl rfl ?_ | refine plan_pass3 rfl rfl ?_ | (refine plan_take (v := ?_) rfl rfl ?_ ?_; rotate_left; focus (intro w0; go_simp; try with_reducible rfl))); simp only [nA, nB, nC, Act.put, nD, nE, nF])
            refine plan_nil ?_
            have HS2 := Lib.hid hs2
            clear hs2
            go_wp2
            refine bodyPost_ret (results_none rfl _ _ _) rfl ?_
            exact ⟨rfl, HS2.out⟩
      · have q1 : decide ((c1 : Int) < (hi : Int)) = false := decide_eq_false (by omega)
        have q2 : ¬ (c1 : Int) < (hi : Int) := by omega
        refine wp_region_plan [19] [(0, 0), (1, 0), (2, 0), (3, 0), (4, 0), (5, 0), (6, 0), (7, 0), (8, 0), (9, 0), (10, 0), (11, 1), (12, 0), (13, 0), (14, 0), (15, 0), (16, 0), (17, 0), (18, 1), (19, 3), (20, 0), (21, 0)] (fun w' : World => True) (by kernel_rfl) (by kernel_rfl) (fun d v c a w h => by first | (cases d <;> exact h) | exact HP d v c a w h) ?_
        repeat ((first | refine plan_skip rfl rfl ?_ | refine plan_pass2 rfl rfl ?_ | refine plan_pass3 rfl rfl ?_ | (refine plan_take (v := ?_) rfl rfl ?_ ?_; rotate_left; focus (intro w0; go_simp; try with_reducible rfl)) | (refine plan_held (v := ?_) rfl rfl trivial ?_ ?_; rotate_left; focus (intro w0 hSw; (try dsimp only at hSw); go_split_ands; go_simp; try with_reducible rfl)) | refine plan_skip1 rfl rfl trivial ?_); simp only [nA, nB, nC, Act.put, nD, nE, nF])
        refine plan_nil ?_
        have hs := HSI.out.drew
        obtain ⟨W1, hW1⟩ : ∃ W1, W1 = wr.drew := ⟨_, rfl⟩
        rw [← hW1] at hs ⊢
        clear hW1
        go_wp2_with fail
        obtain ⟨ssA, hpA, hrA, hmA⟩ := hs
        obtain ⟨xA, hxA⟩ : ∃ x, ssA[p]? = some x := ⟨_, List.getElem?_eq_getElem (by rw [Srt.len hrA]; omega)⟩
        obtain ⟨yA, hyA⟩ : ∃ x, ssA[pa]? = some x := ⟨_, List.getElem?_eq_getElem (by rw [Srt.len hrA]; omega)⟩
        have hSA : W1.drew.cell? ⟨g, p, none⟩ = some (.string xA) ∧ W1.drew.cell? ⟨g, pa, none⟩ = some (.string yA) := ⟨Srt.cell hrA hxA, Srt.cell hrA hyA⟩
        have hcA := HC.out.cmp W1.drew xA yA hmA.drew (hpA.mem_iff.1 (List.mem_of_getElem? hxA)) (hpA.mem_iff.1 (List.mem_of_getElem? hyA))
        have HSA := Lib.hid (Srt.mk' hpA hrA hmA)
        have HCA := Lib.hid hcA
        clear hpA hrA hmA hxA hyA hcA
        refine wp_region_plan [13] [(0, 0), (1, 0), (2, 0), (3, 0), (4, 0), (5, 0), (6, 1), (7, 0), (8, 0), (9, 0), (10, 0), (11, 0), (12, 1), (13, 3), (14, 0), (15, 0)] (fun w' : World => w'.cell? ⟨g, p, none⟩ = some (.string xA) ∧ w'.cell? ⟨g, pa, none⟩ = some (.string yA)) (by kernel_rfl) (by kernel_rfl) (fun d v c a w h => by first | (cases d <;> exact h) | exact HP d v c a w h) ?_
        repeat ((first | refine plan_skip rfl rfl ?_ | refine plan_pass2 rfl rfl ?_ | refine plan_pass3 rfl rfl ?_ | (refine plan_take (v := ?_) rfl rfl ?_ ?_; rotate_left; focus (intro w0; go_simp; try with_reducible rfl)) | (refine plan_held (v := ?_) rfl rfl hSA ?_ ?_; rotate_left; focus (intro w0 hSw; (try dsimp only at hSw); go_split_ands; go_simp; try with_reducible rfl)) | refine plan_skip1 rfl rfl hSA ?_); simp only [nA, nB, nC, Act.put, nD, nE, nF])
        (refine plan_end rfl rfl rfl fun K hK => ?_; (try simp only [nA, nB, nC]))
        go_simp
        refine HCA.out.mono ?_
        rintro e W2 ⟨⟨rA, rfl⟩, hmA⟩
        have hs2 : Srd g n cap ss0 w0 W2 := HSA.out.calm ((Mod.refl _ _).drew.trans hmA fun _ f => f.elim)
        refine hK _ _ ?_
        clear hK K hSA HSA HCA hmA
        try simp only [nA, nB, nC, Act.put, nD, nE, nF]
        by_cases hr : rA < 0
        · have hd : decide (rA < 0) = true := decide_eq_true hr
          repeat ((first | refine plan_skip rfl rfl ?_ | refine plan_pass2 rfl rfl ?_ | refine plan_pass3 rfl rfl ?_ | (refine plan_take (v := ?_) rfl rfl ?_ ?_; rotate_left; focus (intro w0; go_simp; try with_reducible rfl))); simp only [nA, nB, nC, Act.put, nD, nE, nF])
          refine plan_nil ?_
          go_wp2_with fail
          obtain ⟨ssA, hpA, hrA, hmA⟩ := hs2
          obtain ⟨xA, hxA⟩ : ∃ x, ssA[p]? = some x := ⟨_, List.getElem?_eq_getElem (by rw [Srt.len hrA]; omega)⟩
          obtain ⟨yA, hyA⟩ : ∃ x, ssA[pa]? = some x := ⟨_, List.getElem?_eq_getElem (by rw [Srt.len hrA]; omega)⟩
          have hSA : W2.drew.cell? ⟨g, p, none⟩ = some (.string xA) ∧ W2.drew.cell? ⟨g, pa, none⟩ = some (.string yA) := ⟨Srt.cell hrA hxA, Srt.cell hrA hyA⟩
          have HPA := Lib.hid hpA
          have HRA := Lib.hid hrA
          have HMA := Lib.hid hmA
          have HXA := Lib.hid hxA
          have HYA := Lib.hid hyA
          clear hpA hrA hmA hxA hyA
          refine wp_region_plan [21, 23] [(0, 0), (1, 0), (2, 0), (3, 0), (4, 0), (5, 0), (6, 0), (7, 0), (8, 0), (9, 0), (10, 0), (11, 0), (12, 0), (13, 1), (14, 0), (15, 0), (16, 0), (17, 0), (18, 0), (19, 1), (20, 0), (21, 3), (22, 0), (23, 3)] (fun w' : World => w'.cell? ⟨g, p, none⟩ = some (.string xA) ∧ w'.cell? ⟨g, pa, none⟩ = some (.string yA)) (by kernel_rfl) (by kernel_rfl) (fun d v c a w h => by first | (cases d <;> exact h) | exact HP d v c a w h) ?_
          repeat ((first | refine plan_skip rfl rfl ?_ | refine plan_pass2 rfl rfl ?_ | refine plan_pass3 rfl rfl ?_ | (refine plan_take (v := ?_) rfl rfl ?_ ?_; rotate_left; focus (intro w0; go_simp; try with_reducible rfl)) | (refine plan_held (v := ?_) rfl rfl hSA ?_ ?_; rotate_left; focus (intro w0 hSw; (try dsimp only at hSw); go_split_ands; go_simp; try with_reducible rfl)) | refine plan_skip1 rfl rfl hSA ?_); simp only [nA, nB, nC, Act.put, nD, nE, nF])
          (refine plan_end rfl rfl rfl fun K hK => ?_; (try simp only [nA, nB, nC]))
          refine wp_store_row1 9 _ _ rfl (Row.drew HRA.out) g (p) (.string yA) rfl rfl rfl (by rw [Srt.len' HRA.out]; omega) sSz rfl ?_
          intro W3 HR3 HM3
          refine hK _ _ ?_
          clear hK K hSA
          try simp only [nA, nB, nC, Act.put, nD, nE, nF]
          repeat ((first | refine plan_skip rfl rfl ?_ | refine plan_pass2 rfl rfl ?_ | refine plan_pass3 rfl rfl ?_ | (refine plan_take (v := ?_) rfl rfl ?_ ?_; rotate_left; focus (intro w0; go_simp; try with_reducible rfl))); simp only [nA, nB, nC, Act.put, nD, nE, nF])
          (refine plan_end rfl rfl rfl fun K hK => ?_; (try simp only [nA, nB, nC]))
          refine wp_store_row1 9 _ _ rfl HR3.out g (pa) (.string xA) rfl rfl rfl (by rw [List.length_set, Srt.len' HRA.out]; omega) sSz rfl ?_
          intro W4 HR4 HM4
          refine hK _ _ ?_
          clear hK K
          try simp only [nA, nB, nC, Act.put, nD, nE, nF]
          refine plan_nil ?_
          have hs4 : Srd g n cap ss0 w0 W4 := Srt.swap HPA.out HRA.out HMA.out HXA.out HYA.out HR4.out (((Mod.refl _ _).drew.trans HM3.out fun q hq => .inl hq).trans HM4.out fun q hq => .inl hq)
          clear HPA HRA HMA HXA HYA HR3 HM3 HR4 HM4
          have HS4 := Lib.hid hs4
          clear hs4
          go_wp2
          go_roundw
          case rel => exact ⟨ch, by omega, rfl, HS4.out⟩
          case measure => have h1 := H_ch.out; simp [intOf]; omega
        · have hd : decide (rA < 0) = false := decide_eq_false hr
          repeat ((first | refine plan_skip rfl rfl ?_ | refine plan_pass2 rfl rfl ?_ | refine plan_pass3 rfl rfl ?_ | (refine plan_take (v := ?_) rfl rfl ?_ ?_; rotate_left; focus (intro w0; go_simp; try with_reducible rfl))); simp only [nA, nB, nC, Act.put, nD, nE, nF])
          refine plan_nil ?_
          have HS2 := Lib.hid hs2
          clear hs2
          go_wp2
          refine bodyPost_ret (results_none rfl _ _ _) rfl ?_
          exact ⟨rfl, HS2.out⟩
    · have hci : (ch : Int) ≥ (hi : Int) := by omega
      go_wp2
      go_end0
      exact ⟨rfl, HSI.out⟩
end
section
variable {c g n cap : Nat} {ss0 : List ByteArray} {w0 : World}
set_option maxRecDepth 100000 in
set_option maxHeartbeats 4000000 in
theorem hpsS (HC : Hid (SCx c g n cap ss0 w0)) {W : World} (hS : Srd g n cap ss0 w0 W) (a b : Nat) (hab : a < b) (hb : b ≤ n) :
    Calls Tryz.prog 178 #[.slice (some ⟨g, 0, none⟩) n cap, .int .i64 (a : Int), .int .i64 (b : Int), .func (.func 102) #[.pointer (some ⟨c, 0, none⟩)] #[]] W fun e W' => e = .returned (.tuple #[]) ∧ Srd g n cap ss0 w0 W' := by
  have hn4 := HC.out.n4
  have HS := Lib.hid hS
  clear hS
  obtain ⟨hi, hhi⟩ : ∃ q : Nat, q = b - a := ⟨_, rfl⟩
  have H_hi := Lib.hid hhi
  have e_hi : (b : Int) - (a : Int) = (hi : Int) := by omega
  have w_hi : IntKind.i64.wrap (hi : Int) = (hi : Int) := IntWalk.i64_in _ (by omega)
  clear hhi
  have hh1 : 1 ≤ hi := by have := H_hi.out; omega
  have hh2 : a + hi ≤ n := by have := H_hi.out; omega
  obtain ⟨hp, hhp⟩ : ∃ q : Nat, q = hi - 1 := ⟨_, rfl⟩
  have H_hp := Lib.hid hhp
  have e_hp : (hi : Int) - 1 = (hp : Int) := by omega
  have w_hp : IntKind.i64.wrap (hp : Int) = (hp : Int) := IntWalk.i64_in _ (by omega)
  clear hhp
  obtain ⟨md, hmd⟩ : ∃ q : Nat, q = hp / 2 := ⟨_, rfl⟩
  have H_md := Lib.hid hmd
  have w_md : IntKind.i64.wrap (md : Int) = (md : Int) := IntWalk.i64_in _ (by omega)
  clear hmd
  have hmd : md ≤ hi ∧ hp < hi := by have h1 := H_hp.out; have h2 := H_md.out; omega
  have e_md : ((hp : Nat) : Int).tdiv 2 = (md : Int) := by rw [H_md.out]; exact Int.ofNat_tdiv hp 2 |>.symm
  go_enter Tryz.func178, Tryz.ntmps178
  go_wp2_with fail
  go_loopw [11] (fun iv wr => (iv = .int .i64 (-1) ∨ ∃ i : Nat, i ≤ hi ∧ iv = .int .i64 (i : Int)) ∧ Srd g n cap ss0 w0 wr) (fun iv _ => (intOf iv + 1).toNat)
  case atStart => exact ⟨.inr ⟨md, hmd.1, by go_num⟩, HS.out⟩
  case round =>
    clear HS
    obtain ⟨h, hs⟩ := hrel
    have HSI := Lib.hid hs
    clear hs
    rcases h with rfl | ⟨i, hih, rfl⟩
    · go_wp2_with fail
      go_loopw [12] (fun iv wr => (iv = .int .i64 (-1) ∨ ∃ i : Nat, i < hi ∧ iv = .int .i64 (i : Int)) ∧ Srd g n cap ss0 w0 wr) (fun iv _ => (intOf iv + 1).toNat)
      case atStart => exact ⟨.inr ⟨hp, hmd.2, rfl⟩, HSI.out⟩
      case round =>
        clear HSI
        obtain ⟨h, hs⟩ := hrel
        rcases h with rfl | ⟨i, hih, rfl⟩
        · have HSI := Lib.hid hs
          clear hs
          go_wp2
          go_end0
          exact ⟨rfl, HSI.out⟩
        · have hi0 : (0 : Int) ≤ (i : Int) := by omega
          have han : a < n := by omega
          have q5 : (a : Int) < (n : Int) := by omega
          have q6 : IntKind.i64.wrap (a : Int) = (a : Int) := IntWalk.i64_in _ (by omega)
          go_wp2_with fail
          obtain ⟨p, hp⟩ : ∃ q : Nat, q = a + i := ⟨_, rfl⟩
          have H_p := Lib.hid hp
          have e_p : (a : Int) + (i : Int) = (p : Int) := by omega
          have w_p : IntKind.i64.wrap (p : Int) = (p : Int) := IntWalk.i64_in _ (by omega)
          have l_p : p < n := by omega
          have k_p : (p : Int) < (n : Int) := by omega
          clear hp
          obtain ⟨ssA, hpA, hrA, hmA⟩ := hs
          obtain ⟨xA, hxA⟩ : ∃ x, ssA[a]? = some x := ⟨_, List.getElem?_eq_getElem (by rw [Srt.len hrA]; omega)⟩
          obtain ⟨yA, hyA⟩ : ∃ x, ssA[p]? = some x := ⟨_, List.getElem?_eq_getElem (by rw [Srt.len hrA]; omega)⟩
          have hSA : wr.drew.cell? ⟨g, a, none⟩ = some (.string xA) ∧ wr.drew.cell? ⟨g, p, none⟩ = some (.string yA) := ⟨Srt.cell hrA hxA, Srt.cell hrA hyA⟩
          have HPA := Lib.hid hpA
          have HRA := Lib.hid hrA
          have HMA := Lib.hid hmA
          have HXA := Lib.hid hxA
          have HYA := Lib.hid hyA
          clear hpA hrA hmA hxA hyA
          refine wp_region_plan [17, 19] [(0, 0), (1, 0), (2, 0), (3, 0), (4, 0), (5, 0), (6, 0), (7, 0), (8, 0), (9, 0), (10, 0), (11, 1), (12, 0), (13, 0), (14, 0), (15, 1), (16, 0), (17, 3), (18, 0), (19, 3)] (fun w' : World => w'.cell? ⟨g, a, none⟩ = some (.string xA) ∧ w'.cell? ⟨g, p, none⟩ = some (.string yA)) (by kernel_rfl) (by kernel_rfl) (fun d v c a w h => by first | (cases d <;> exact h) | exact HP d v c a w h) ?_
          repeat ((first | refine plan_skip rfl rfl ?_ | refine plan_pass2 rfl rfl ?_ | refine plan_pass3 rfl rfl ?_ | (refine plan_take (v := ?_) rfl rfl ?_ ?_; rotate_left; focus (intro w0; go_simp; try with_reducible rfl)) | (refine plan_held (v := ?_) rfl rfl hSA ?_ ?_; rotate_left; focus (intro w0 hSw; (try dsimp only at hSw); go_split_ands; go_simp; try with_reducible rfl)) | refine plan_skip1 rfl rfl hSA ?_); simp only [nA, nB, nC, Act.put, nD, nE, nF])
          (refine plan_end rfl rfl rfl fun K hK => ?_; (try simp only [nA, nB, nC]))
          refine wp_store_row1 9 _ _ rfl (Row.drew HRA.out) g (a) (.string yA) rfl rfl rfl (by rw [Srt.len' HRA.out]; omega) sSz rfl ?_
          intro W3 HR3 HM3
          refine hK _ _ ?_
          clear hK K hSA
          try simp only [nA, nB, nC, Act.put, nD, nE, nF]
          repeat ((first | refine plan_skip rfl rfl ?_ | refine plan_pass2 rfl rfl ?_ | refine plan_pass3 rfl rfl ?_ | (refine plan_take (v := ?_) rfl rfl ?_ ?_; rotate_left; focus (intro w0; go_simp; try with_reducible rfl))); simp only [nA, nB, nC, Act.put, nD, nE, nF])
          (refine plan_end rfl rfl rfl fun K hK => ?_; (try simp only [nA, nB, nC]))
          refine wp_store_row1 9 _ _ rfl HR3.out g (p) (.string xA) rfl rfl rfl (by rw [List.length_set, Srt.len' HRA.out]; omega) sSz rfl ?_
          intro W4 HR4 HM4
          refine hK _ _ ?_
          clear hK K
          try simp only [nA, nB, nC, Act.put, nD, nE, nF]
          refine plan_nil ?_
          have hs4 : Srd g n cap ss0 w0 W4 := Srt.swap HPA.out HRA.out HMA.out HXA.out HYA.out HR4.out (((Mod.refl _ _).drew.trans HM3.out fun q hq => .inl hq).trans HM4.out fun q hq => .inl hq)
          clear HPA HRA HMA HXA HYA HR3 HM3 HR4 HM4
          have HS4 := Lib.hid hs4
          clear hs4
          go_wp2_with (go_at_call 196; refine (sftS HC HS4.out 0 i a (by omega) (by omega)).mono ?_; rintro e W5 ⟨rfl, hs5⟩; have HS5 := Lib.hid hs5; clear hs5)
          go_roundw
          case rel =>
            refine ⟨?_, HS5.out⟩
            rcases Nat.eq_zero_or_pos i with rfl | hi0
            · exact .inl (by go_num)
            · refine .inr ⟨i - 1, by omega, ?_⟩
              rw [show ((i - 1 : Nat) : Int) = (i : Int) - 1 by omega]
              try rfl
          case measure => first | (simp [intOf]; omega) | simp [intOf]
    · have hi0 : (0 : Int) ≤ (i : Int) := by omega
      go_wp2_with (go_at_call 196; refine (sftS HC HSI.out i hi a (by omega) (by omega)).mono ?_; rintro e W2 ⟨rfl, hs2⟩; have HS2 := Lib.hid hs2; clear hs2)
      go_roundw
      case rel =>
        refine ⟨?_, HS2.out⟩
        rcases Nat.eq_zero_or_pos i with rfl | hi0
        · exact .inl (by go_num)
        · refine .inr ⟨i - 1, by omega, ?_⟩
          rw [show ((i - 1 : Nat) : Int) = (i : Int) - 1 by omega]
          try rfl
      case measure => first | (simp [intOf]; omega) | simp [intOf]
end
end Go.Proofs.YtcccdlmngddalaaGreat
