/- .. reverseRange, partitionEqual. (Printed by gen_sort.py.) -/
import Derived.Test.YtcccdlmngddalaaGreatGrSa
set_option linter.unusedVariables false
set_option linter.unusedSimpArgs false
namespace Go.Proofs.YtcccdlmngddalaaGreat
open Go.RowKit
section
variable {c g n cap : Nat} {ss0 : List ByteArray} {w0 : World}
set_option maxRecDepth 100000 in
set_option maxHeartbeats 4000000 in
theorem revS (HC : Hid (SCx c g n cap ss0 w0)) {W : World} (hS : Srd g n cap ss0 w0 W) (a b : Nat) (hab : a < b) (hb : b ≤ n) :
    Calls Tryz.prog 181 #[.slice (some ⟨g, 0, none⟩) n cap, .int .i64 (a : Int), .int .i64 (b : Int), .func (.func 102) #[.pointer (some ⟨c, 0, none⟩)] #[]] W fun e W' => e = .returned (.tuple #[]) ∧ Srd g n cap ss0 w0 W' := by
  have hn4 := HC.out.n4
  have HS := Lib.hid hS
  clear hS
  obtain ⟨b1, hb1⟩ : ∃ q : Nat, q = b - 1 := ⟨_, rfl⟩
  have H_b1 := Lib.hid hb1
  have e_b1 : (b : Int) - 1 = (b1 : Int) := by omega
  have w_b1 : IntKind.i64.wrap (b1 : Int) = (b1 : Int) := IntWalk.i64_in _ (by omega)
  have l_b1 : b1 < n := by omega
  have k_b1 : (b1 : Int) < (n : Int) := by omega
  clear hb1
  go_enter Tryz.func181, Tryz.ntmps181
  go_wp2_with fail
  go_loopw [8, 9] (fun iv jv wr => ∃ i j : Nat, j < b ∧ iv = .int .i64 (i : Int) ∧ jv = .int .i64 (j : Int) ∧ i ≤ b ∧ Srd g n cap ss0 w0 wr) (fun iv jv _ => (intOf jv - intOf iv).toNat)
  case atStart => exact ⟨a, b1, by have := H_b1.out; omega, rfl, rfl, by omega, HS.out⟩
  case round =>
    clear HS
    obtain ⟨i, j, hjb, rfl, rfl, hib, hs⟩ := hrel
    by_cases hij : i < j
    · have hin : i < n := by omega
      have hjn : j < n := by omega
      have q1 : (i : Int) < (n : Int) := by omega
      have q2 : (j : Int) < (n : Int) := by omega
      obtain ⟨jp, hjp⟩ : ∃ q : Nat, q = j - 1 := ⟨_, rfl⟩
      have H_jp := Lib.hid hjp
      have e_jp : (j : Int) - 1 = (jp : Int) := by omega
      have w_jp : IntKind.i64.wrap (jp : Int) = (jp : Int) := IntWalk.i64_in _ (by omega)
      have l_jp : jp < n := by omega
      have k_jp : (jp : Int) < (n : Int) := by omega
      clear hjp
      have q3 : (i : Int) < (j : Int) := by omega
      go_wp2_with fail
      obtain ⟨ssA, hpA, hrA, hmA⟩ := hs
      obtain ⟨xA, hxA⟩ : ∃ x, ssA[i]? = some x := ⟨_, List.getElem?_eq_getElem (by rw [Srt.len hrA]; omega)⟩
      obtain ⟨yA, hyA⟩ : ∃ x, ssA[j]? = some x := ⟨_, List.getElem?_eq_getElem (by rw [Srt.len hrA]; omega)⟩
      have hSA : wr.drew.cell? ⟨g, i, none⟩ = some (.string xA) ∧ wr.drew.cell? ⟨g, j, none⟩ = some (.string yA) := ⟨Srt.cell hrA hxA, Srt.cell hrA hyA⟩
      have HPA := Lib.hid hpA
      have HRA := Lib.hid hrA
      have HMA := Lib.hid hmA
      have HXA := Lib.hid hxA
      have HYA := Lib.hid hyA
      clear hpA hrA hmA hxA hyA
      refine wp_region_plan [13, 15] [(0, 0), (1, 0), (2, 0), (3, 0), (4, 0), (5, 0), (6, 0), (7, 1), (8, 0), (9, 0), (10, 0), (11, 1), (12, 0), (13, 3), (14, 0), (15, 3)] (fun w' : World => w'.cell? ⟨g, i, none⟩ = some (.string xA) ∧ w'.cell? ⟨g, j, none⟩ = some (.string yA)) (by kernel_rfl) (by kernel_rfl) (fun d v c a w h => by first | (cases d <;> exact h) | exact HP d v c a w h) ?_
      repeat ((first | refine plan_skip rfl rfl ?_ | refine plan_pass2 rfl rfl ?_ | refine plan_pass3 rfl rfl ?_ | (refine plan_take (v := ?_) rfl rfl ?_ ?_; rotate_left; focus (intro w0; go_simp; try with_reducible rfl)) | (refine plan_held (v := ?_) rfl rfl hSA ?_ ?_; rotate_left; focus (intro w0 hSw; (try dsimp only at hSw); go_split_ands; go_simp; try with_reducible rfl)) | refine plan_skip1 rfl rfl hSA ?_); simp only [nA, nB, nC, Act.put, nD, nE, nF])
      (refine plan_end rfl rfl rfl fun K hK => ?_; (try simp only [nA, nB, nC]))
      refine wp_store_row1 9 _ _ rfl (Row.drew HRA.out) g (i) (.string yA) rfl rfl rfl (by rw [Srt.len' HRA.out]; omega) sSz rfl ?_
      intro W3 HR3 HM3
      refine hK _ _ ?_
      clear hK K hSA
      try simp only [nA, nB, nC, Act.put, nD, nE, nF]
      repeat ((first | refine plan_skip rfl rfl ?_ | refine plan_pass2 rfl rfl ?_ | refine plan_pass3 rfl rfl ?_ | (refine plan_take (v := ?_) rfl rfl ?_ ?_; rotate_left; focus (intro w0; go_simp; try with_reducible rfl))); simp only [nA, nB, nC, Act.put, nD, nE, nF])
      (refine plan_end rfl rfl rfl fun K hK => ?_; (try simp only [nA, nB, nC]))
      refine wp_store_row1 9 _ _ rfl HR3.out g (j) (.string xA) rfl rfl rfl (by rw [List.length_set, Srt.len' HRA.out]; omega) sSz rfl ?_
      intro W4 HR4 HM4
      refine hK _ _ ?_
      clear hK K
      try simp only [nA, nB, nC, Act.put, nD, nE, nF]
      refine plan_nil ?_
      have hs4 : Srd g n cap ss0 w0 W4 := Srt.swap HPA.out HRA.out HMA.out HXA.out HYA.out HR4.out (((Mod.refl _ _).drew.trans HM3.out fun q hq => .inl hq).trans HM4.out fun q hq => .inl hq)
      clear HPA HRA HMA HXA HYA HR3 HM3 HR4 HM4
      have HS4 := Lib.hid hs4
      clear hs4
      go_wp2
      go_roundw
      case rel => exact ⟨i + 1, jp, by have := H_jp.out; omega, by go_num, rfl, by omega, HS4.out⟩
      case measure => have := H_jp.out; simp [intOf]; omega
    · have q3 : ¬ (i : Int) < (j : Int) := by omega
      have HS4 := Lib.hid hs
      clear hs
      go_wp2
      go_end0
      exact ⟨rfl, HS4.out⟩
end
section
variable {c g n cap : Nat} {ss0 : List ByteArray} {w0 : World}
set_option maxRecDepth 100000 in
set_option maxHeartbeats 4000000 in
theorem peqS (HC : Hid (SCx c g n cap ss0 w0)) {W : World} (hS : Srd g n cap ss0 w0 W) (a b p : Nat) (hab : a < b) (hb : b ≤ n) (hp : a ≤ p) (hpb : p < b) :
    Calls Tryz.prog 183 #[.slice (some ⟨g, 0, none⟩) n cap, .int .i64 (a : Int), .int .i64 (b : Int), .int .i64 (p : Int), .func (.func 102) #[.pointer (some ⟨c, 0, none⟩)] #[]] W fun e W' => ∃ m : Nat, a < m ∧ m ≤ b ∧ e = .returned (.int .i64 (m : Int)) ∧ Srd g n cap ss0 w0 W' := by
  have hn4 := HC.out.n4
  have HS0 := Lib.hid hS
  clear hS
  have han : a < n := by omega
  have hpn : p < n := by omega
  have qa : (a : Int) < (n : Int) := by omega
  have qp : (p : Int) < (n : Int) := by omega
  obtain ⟨a1, ha1⟩ : ∃ q : Nat, q = a + 1 := ⟨_, rfl⟩
  have H_a1 := Lib.hid ha1
  have e_a1 : (a : Int) + 1 = (a1 : Int) := by omega
  have w_a1 : IntKind.i64.wrap (a1 : Int) = (a1 : Int) := IntWalk.i64_in _ (by omega)
  clear ha1
  obtain ⟨b1, hb1⟩ : ∃ q : Nat, q = b - 1 := ⟨_, rfl⟩
  have H_b1 := Lib.hid hb1
  have e_b1 : (b : Int) - 1 = (b1 : Int) := by omega
  have w_b1 : IntKind.i64.wrap (b1 : Int) = (b1 : Int) := IntWalk.i64_in _ (by omega)
  have l_b1 : b1 < n := by omega
  have k_b1 : (b1 : Int) < (n : Int) := by omega
  clear hb1
  have ha1 : a1 ≤ a + 1 ∧ a + 1 ≤ a1 := by have := H_a1.out; omega
  have hb1 : b1 + 1 ≤ b ∧ b ≤ b1 + 1 := by have := H_b1.out; omega
  go_enter Tryz.func183, Tryz.ntmps183
  go_wp2_with fail
  have hs := HS0.out
  clear HS0
  obtain ⟨ssA, hpA, hrA, hmA⟩ := hs
  obtain ⟨xA, hxA⟩ : ∃ x, ssA[a]? = some x := ⟨_, List.getElem?_eq_getElem (by rw [Srt.len hrA]; omega)⟩
  obtain ⟨yA, hyA⟩ : ∃ x, ssA[p]? = some x := ⟨_, List.getElem?_eq_getElem (by rw [Srt.len hrA]; omega)⟩
  have hSA : W.drew.cell? ⟨g, a, none⟩ = some (.string xA) ∧ W.drew.cell? ⟨g, p, none⟩ = some (.string yA) := ⟨Srt.cell hrA hxA, Srt.cell hrA hyA⟩
  have HPA := Lib.hid hpA
  have HRA := Lib.hid hrA
  have HMA := Lib.hid hmA
  have HXA := Lib.hid hxA
  have HYA := Lib.hid hyA
  clear hpA hrA hmA hxA hyA
  refine wp_region_plan [13, 15] [(0, 0), (1, 0), (2, 0), (3, 0), (4, 0), (5, 0), (6, 0), (7, 1), (8, 0), (9, 0), (10, 0), (11, 1), (12, 0), (13, 3), (14, 0), (15, 3)] (fun w' : World => w'.cell? ⟨g, a, none⟩ = some (.string xA) ∧ w'.cell? ⟨g, p, none⟩ = some (.string yA)) (by kernel_rfl) (by kernel_rfl) (fun d v c a w h => by first | (cases d <;> exact h) | exact HP d v c a w h) ?_
  repeat ((first | refine plan_skip rfl rfl ?_ | refine plan_pass2 rfl rfl ?_ | refine plan_pass3 rfl rfl ?_ | (refine plan_take (v := ?_) rfl rfl ?_ ?_; rotate_left; focus (intro w0; go_simp; try with_reducible rfl)) | (refine plan_held (v := ?_) rfl rfl hSA ?_ ?_; rotate_left; focus (intro w0 hSw; (try dsimp only at hSw); go_split_ands; go_simp; try with_reducible rfl)) | refine plan_skip1 rfl rfl hSA ?_); simp only [nA, nB, nC, Act.put, nD, nE, nF])
  (refine plan_end rfl rfl rfl fun K hK => ?_; (try simp only [nA, nB, nC]))
  refine wp_store_row1 9 _ _ rfl (Row.drew HRA.out) g (a) (.string yA) rfl rfl rfl (by rw [Srt.len' HRA.out]; omega) sSz rfl ?_
  intro W3 HR3 HM3
  refine hK _ _ ?_
  clear hK K hSA
  try simp only [nA, nB, nC, Act.put, nD, nE, nF]
  repeat ((first | refine plan_skip rfl rfl ?_ | refine plan_pass2 rfl rfl ?_ | refine plan_pass3 rfl rfl ?_ | (refine plan_take (v := ?_) rfl rfl ?_ ?_; rotate_left; focus (intro w0; go_simp; try with_reducible rfl))); simp only [nA, nB, nC, Act.put, nD, nE, nF])
  (refine plan_end rfl rfl rfl fun K hK => ?_; (try simp only [nA, nB, nC]))
  refine wp_store_row1 9 _ _ rfl HR3.out g (p) (.string xA) rfl rfl rfl (by rw [List.length_set, Srt.len' HRA.out]; omega) sSz rfl ?_
  intro W1 HR4 HM4
  refine hK _ _ ?_
  clear hK K
  try simp only [nA, nB, nC, Act.put, nD, nE, nF]
  refine plan_nil ?_
  have hs1 : Srd g n cap ss0 w0 W1 := Srt.swap HPA.out HRA.out HMA.out HXA.out HYA.out HR4.out (((Mod.refl _ _).drew.trans HM3.out fun q hq => .inl hq).trans HM4.out fun q hq => .inl hq)
  clear HPA HRA HMA HXA HYA HR3 HM3 HR4 HM4
  have HS1 := Lib.hid hs1
  clear hs1
  go_wp2_with fail
  go_loopw [11, 12] (fun iv jv wr => ∃ i0 j0 : Nat, a + 1 ≤ i0 ∧ i0 ≤ b ∧ a ≤ j0 ∧ j0 < b ∧ iv = .int .i64 (i0 : Int) ∧ jv = .int .i64 (j0 : Int) ∧ Srd g n cap ss0 w0 wr) (fun iv jv _ => (intOf jv + 1 - intOf iv).toNat)
  case atStart => exact ⟨a1, b1, by omega, by omega, by omega, by omega, rfl, rfl, HS1.out⟩
  case round =>
    clear HS1
    obtain ⟨i0, j0, hi1, hi2, hj1, hj2, rfl, rfl, hs⟩ := hrel
    have HSI := Lib.hid hs
    clear hs
    go_upto_block 2 with fail
    go_cut [11] from 31 to 50 (fun iv wx => ∃ i : Nat, i0 ≤ i ∧ i ≤ b ∧ iv = .int .i64 (i : Int) ∧ Srd g n cap ss0 w0 wx)
    case first =>
      go_wp2_with fail
      go_loopw [11] (fun iv wr => ∃ i : Nat, i0 ≤ i ∧ i ≤ b ∧ iv = .int .i64 (i : Int) ∧ Srd g n cap ss0 w0 wr) (fun iv _ => b + 1 - (intOf iv).toNat)
      case atStart => exact ⟨i0, by omega, by omega, rfl, HSI.out⟩
      case round =>
        clear HSI
        obtain ⟨i, hv1, hv2, rfl, hs⟩ := hrel
        by_cases hij : i ≤ j0
        · have q3 : (i : Int) ≤ (j0 : Int) := by omega
          have q4 : decide ((i : Int) ≤ (j0 : Int)) = true := decide_eq_true q3
          have hvn : i < n := by omega
          have q5 : (i : Int) < (n : Int) := by omega
          go_wp2_with fail
          obtain ⟨ssA, hpA, hrA, hmA⟩ := hs
          obtain ⟨xA, hxA⟩ : ∃ x, ssA[a]? = some x := ⟨_, List.getElem?_eq_getElem (by rw [Srt.len hrA]; omega)⟩
          obtain ⟨yA, hyA⟩ : ∃ x, ssA[i]? = some x := ⟨_, List.getElem?_eq_getElem (by rw [Srt.len hrA]; omega)⟩
          have hSA : wr.drew.cell? ⟨g, a, none⟩ = some (.string xA) ∧ wr.drew.cell? ⟨g, i, none⟩ = some (.string yA) := ⟨Srt.cell hrA hxA, Srt.cell hrA hyA⟩
          have hcA := HC.out.cmp wr.drew xA yA hmA.drew (hpA.mem_iff.1 (List.mem_of_getElem? hxA)) (hpA.mem_iff.1 (List.mem_of_getElem? hyA))
          have HSA := Lib.hid (Srt.mk' hpA hrA hmA)
          have HCA := Lib.hid hcA
          clear hpA hrA hmA hxA hyA hcA
          refine wp_region_plan [13] [(0, 0), (1, 0), (2, 0), (3, 0), (4, 0), (5, 0), (6, 0), (7, 0), (8, 1), (9, 0), (10, 0), (11, 0), (12, 1), (13, 3), (14, 0), (15, 0), (16, 0)] (fun w' : World => w'.cell? ⟨g, a, none⟩ = some (.string xA) ∧ w'.cell? ⟨g, i, none⟩ = some (.string yA)) (by kernel_rfl) (by kernel_rfl) (fun d v c a w h => by first | (cases d <;> exact h) | exact HP d v c a w h) ?_
          repeat ((first | refine plan_skip rfl rfl ?_ | refine plan_pass2 rfl rfl ?_ | refine plan_pass3 rfl rfl ?_ | (refine plan_take (v := ?_) rfl rfl ?_ ?_; rotate_left; focus (intro w0; go_simp; try with_reducible rfl)) | (refine plan_held (v := ?_) rfl rfl hSA ?_ ?_; rotate_left; focus (intro w0 hSw; (try dsimp only at hSw); go_split_ands; go_simp; try with_reducible rfl)) | refine plan_skip1 rfl rfl hSA ?_); simp only [nA, nB, nC, Act.put, nD, nE, nF])
          (refine plan_end rfl rfl rfl fun K hK => ?_; (try simp only [nA, nB, nC]))
          go_simp
          refine HCA.out.mono ?_
          rintro e W2 ⟨⟨rA, rfl⟩, hmA⟩
          have hs2 : Srd g n cap ss0 w0 W2 := HSA.out.calm ((Mod.refl _ _).drew.trans hmA fun _ f => f.elim)
          refine hK _ _ ?_
          clear hK K hSA HSA HCA hmA
          try simp only [nA, nB, nC, Act.put, nD, nE, nF]
          by_cases hr : rA < 0
          · have hd : decide (rA < 0) = true := decide_eq_true hr
            repeat ((first | refine plan_skip rfl rfl ?_ | refine plan_pass2 rfl rfl ?_ | refine plan_pass3 rfl rfl ?_ | (refine plan_take (v := ?_) rfl rfl ?_ ?_; rotate_left; focus (intro w0; go_simp; try with_reducible rfl))); simp only [nA, nB, nC, Act.put, nD, nE, nF])
            refine plan_nil ?_
            have HS2 := Lib.hid hs2
            clear hs2
            go_wp2_with fail
            go_meet
            exact ⟨i, hv1, hv2, rfl, HS2.out⟩
          · have hd : decide (rA < 0) = false := decide_eq_false hr
            repeat ((first | refine plan_skip rfl rfl ?_ | refine plan_pass2 rfl rfl ?_ | refine plan_pass3 rfl rfl ?_ | (refine plan_take (v := ?_) rfl rfl ?_ ?_; rotate_left; focus (intro w0; go_simp; try with_reducible rfl))); simp only [nA, nB, nC, Act.put, nD, nE, nF])
            refine plan_nil ?_
            have HS2 := Lib.hid hs2
            clear hs2
            go_wp2
            go_roundw
            case rel => exact ⟨i + 1, by omega, by omega, by go_num, HS2.out⟩
            case measure => simp [intOf]; omega
        · have q3 : ¬ (i : Int) ≤ (j0 : Int) := by omega
          have q4 : decide ((i : Int) ≤ (j0 : Int)) = false := decide_eq_false q3
          have HS2 := Lib.hid hs.drew
          clear hs
          go_wp2_with fail
          refine wp_region_plan [13] [(0, 0), (1, 0), (2, 0), (3, 0), (4, 0), (5, 0), (6, 0), (7, 0), (8, 1), (9, 0), (10, 0), (11, 0), (12, 1), (13, 3), (14, 0), (15, 0), (16, 0)] (fun w' : World => True) (by kernel_rfl) (by kernel_rfl) (fun d v c a w h => by first | (cases d <;> exact h) | exact HP d v c a w h) ?_
          repeat ((first | refine plan_skip rfl rfl ?_ | refine plan_pass2 rfl rfl ?_ | refine plan_pass3 rfl rfl ?_ | (refine plan_take (v := ?_) rfl rfl ?_ ?_; rotate_left; focus (intro w0; go_simp; try with_reducible rfl)) | (refine plan_held (v := ?_) rfl rfl trivial ?_ ?_; rotate_left; focus (intro w0 hSw; (try dsimp only at hSw); go_split_ands; go_simp; try with_reducible rfl)) | refine plan_skip1 rfl rfl trivial ?_); simp only [nA, nB, nC, Act.put, nD, nE, nF])
          refine plan_nil ?_
          go_wp2_with fail
          go_meet
          exact ⟨i, hv1, hv2, rfl, HS2.out⟩
    case rest =>
      rename World => wx
      clear HSI
      obtain ⟨i, hv1, hv2, rfl, hs⟩ := hcut
      have HSJ := Lib.hid hs
      clear hs
      go_upto_block 4 with fail
      go_cut [12] from 50 to 68 (fun iv wx => ∃ j : Nat, a ≤ j ∧ j ≤ j0 ∧ iv = .int .i64 (j : Int) ∧ Srd g n cap ss0 w0 wx)
      case first =>
        go_wp2_with fail
        go_loopw [12] (fun iv wr => ∃ j : Nat, a ≤ j ∧ j ≤ j0 ∧ iv = .int .i64 (j : Int) ∧ Srd g n cap ss0 w0 wr) (fun iv _ => (intOf iv).toNat)
        case atStart => exact ⟨j0, by omega, by omega, rfl, HSJ.out⟩
        case round =>
          clear HSJ
          obtain ⟨j, hw1, hw2, rfl, hs⟩ := hrel
          by_cases hij : i ≤ j
          · have q3 : (i : Int) ≤ (j : Int) := by omega
            have q4 : decide ((i : Int) ≤ (j : Int)) = true := decide_eq_true q3
            have hvn : j < n := by omega
            have q5 : (j : Int) < (n : Int) := by omega
            obtain ⟨jp, hjp⟩ : ∃ q : Nat, q = j - 1 := ⟨_, rfl⟩
            have H_jp := Lib.hid hjp
            have e_jp : (j : Int) - 1 = (jp : Int) := by omega
            have w_jp : IntKind.i64.wrap (jp : Int) = (jp : Int) := IntWalk.i64_in _ (by omega)
            have l_jp : jp < n := by omega
            have k_jp : (jp : Int) < (n : Int) := by omega
            clear hjp
            go_wp2_with fail
            obtain ⟨ssA, hpA, hrA, hmA⟩ := hs
            obtain ⟨xA, hxA⟩ : ∃ x, ssA[a]? = some x := ⟨_, List.getElem?_eq_getElem (by rw [Srt.len hrA]; omega)⟩
            obtain ⟨yA, hyA⟩ : ∃ x, ssA[j]? = some x := ⟨_, List.getElem?_eq_getElem (by rw [Srt.len hrA]; omega)⟩
            have hSA : wr.drew.cell? ⟨g, a, none⟩ = some (.string xA) ∧ wr.drew.cell? ⟨g, j, none⟩ = some (.string yA) := ⟨Srt.cell hrA hxA, Srt.cell hrA hyA⟩
            have hcA := HC.out.cmp wr.drew xA yA hmA.drew (hpA.mem_iff.1 (List.mem_of_getElem? hxA)) (hpA.mem_iff.1 (List.mem_of_getElem? hyA))
            have HSA := Lib.hid (Srt.mk' hpA hrA hmA)
            have HCA := Lib.hid hcA
            clear hpA hrA hmA hxA hyA hcA
            refine wp_region_plan [13] [(0, 0), (1, 0), (2, 0), (3, 0), (4, 0), (5, 0), (6, 0), (7, 0), (8, 1), (9, 0), (10, 0), (11, 0), (12, 1), (13, 3), (14, 0), (15, 0)] (fun w' : World => w'.cell? ⟨g, a, none⟩ = some (.string xA) ∧ w'.cell? ⟨g, j, none⟩ = some (.string yA)) (by kernel_rfl) (by kernel_rfl) (fun d v c a w h => by first | (cases d <;> exact h) | exact HP d v c a w h) ?_
            repeat ((first | refine plan_skip rfl rfl ?_ | refine plan_pass2 rfl rfl ?_ | refine plan_pass3 rfl rfl ?_ | (refine plan_take (v := ?_) rfl rfl ?_ ?_; rotate_left; focus (intro w0; go_simp; try with_reducible rfl)) | (refine plan_held (v := ?_) rfl rfl hSA ?_ ?_; rotate_left; focus (intro w0 hSw; (try dsimp only at hSw); go_split_ands; go_simp; try with_reducible rfl)) | refine plan_skip1 rfl rfl hSA ?_); simp only [nA, nB, nC, Act.put, nD, nE, nF])
            (refine plan_end rfl rfl rfl fun K hK => ?_; (try simp only [nA, nB, nC]))
            go_simp
            refine HCA.out.mono ?_
            rintro e W2 ⟨⟨rA, rfl⟩, hmA⟩
            have hs2 : Srd g n cap ss0 w0 W2 := HSA.out.calm ((Mod.refl _ _).drew.trans hmA fun _ f => f.elim)
            refine hK _ _ ?_
            clear hK K hSA HSA HCA hmA
            try simp only [nA, nB, nC, Act.put, nD, nE, nF]
            by_cases hr : rA < 0
            · have hd : decide (rA < 0) = true := decide_eq_true hr
              repeat ((first | refine plan_skip rfl rfl ?_ | refine plan_pass2 rfl rfl ?_ | refine plan_pass3 rfl rfl ?_ | (refine plan_take (v := ?_) rfl rfl ?_ ?_; rotate_left; focus (intro w0; go_simp; try with_reducible rfl))); simp only [nA, nB, nC, Act.put, nD, nE, nF])
              refine plan_nil ?_
              have HS2 := Lib.hid hs2
              clear hs2
              go_wp2
              go_roundw
              case rel => exact ⟨jp, by have := H_jp.out; omega, by have := H_jp.out; omega, by go_num, HS2.out⟩
              case measure => have := H_jp.out; simp [intOf]; omega
            · have hd : decide (rA < 0) = false := decide_eq_false hr
              repeat ((first | refine plan_skip rfl rfl ?_ | refine plan_pass2 rfl rfl ?_ | refine plan_pass3 rfl rfl ?_ | (refine plan_take (v := ?_) rfl rfl ?_ ?_; rotate_left; focus (intro w0; go_simp; try with_reducible rfl))); simp only [nA, nB, nC, Act.put, nD, nE, nF])
              refine plan_nil ?_
              have HS2 := Lib.hid hs2
              clear hs2
              go_wp2_with fail
              go_meet
              exact ⟨j, hw1, hw2, rfl, HS2.out⟩
          · have q3 : ¬ (i : Int) ≤ (j : Int) := by omega
            have q4 : decide ((i : Int) ≤ (j : Int)) = false := decide_eq_false q3
            have HS2 := Lib.hid hs.drew
            clear hs
            go_wp2_with fail
            refine wp_region_plan [13] [(0, 0), (1, 0), (2, 0), (3, 0), (4, 0), (5, 0), (6, 0), (7, 0), (8, 1), (9, 0), (10, 0), (11, 0), (12, 1), (13, 3), (14, 0), (15, 0)] (fun w' : World => True) (by kernel_rfl) (by kernel_rfl) (fun d v c a w h => by first | (cases d <;> exact h) | exact HP d v c a w h) ?_
            repeat ((first | refine plan_skip rfl rfl ?_ | refine plan_pass2 rfl rfl ?_ | refine plan_pass3 rfl rfl ?_ | (refine plan_take (v := ?_) rfl rfl ?_ ?_; rotate_left; focus (intro w0; go_simp; try with_reducible rfl)) | (refine plan_held (v := ?_) rfl rfl trivial ?_ ?_; rotate_left; focus (intro w0 hSw; (try dsimp only at hSw); go_split_ands; go_simp; try with_reducible rfl)) | refine plan_skip1 rfl rfl trivial ?_); simp only [nA, nB, nC, Act.put, nD, nE, nF])
            refine plan_nil ?_
            go_wp2_with fail
            go_meet
            exact ⟨j, hw1, hw2, rfl, HS2.out⟩
      case rest =>
        rename World => wx
        clear HSJ
        obtain ⟨j, hw1, hw2, rfl, hs⟩ := hcut
        have HSK := Lib.hid hs
        clear hs
        by_cases hji : j < i
        · have q6 : (i : Int) > (j : Int) := by omega
          go_wp2
          go_ret
          exact ⟨i, by omega, by omega, rfl, HSK.out⟩
        · have q6 : ¬ (i : Int) > (j : Int) := by omega
          have hin : i < n := by omega
          have hjn : j < n := by omega
          have q7 : (i : Int) < (n : Int) := by omega
          have q8 : (j : Int) < (n : Int) := by omega
          obtain ⟨jq, hjq⟩ : ∃ q : Nat, q = j - 1 := ⟨_, rfl⟩
          have H_jq := Lib.hid hjq
          have e_jq : (j : Int) - 1 = (jq : Int) := by omega
          have w_jq : IntKind.i64.wrap (jq : Int) = (jq : Int) := IntWalk.i64_in _ (by omega)
          have l_jq : jq < n := by omega
          have k_jq : (jq : Int) < (n : Int) := by omega
          clear hjq
          have hs := HSK.out
          clear HSK
          go_wp2_with fail
          obtain ⟨ssA, hpA, hrA, hmA⟩ := hs
          obtain ⟨xA, hxA⟩ : ∃ x, ssA[i]? = some x := ⟨_, List.getElem?_eq_getElem (by rw [Srt.len hrA]; omega)⟩
          obtain ⟨yA, hyA⟩ : ∃ x, ssA[j]? = some x := ⟨_, List.getElem?_eq_getElem (by rw [Srt.len hrA]; omega)⟩
          have hSA : wx.drew.cell? ⟨g, i, none⟩ = some (.string xA) ∧ wx.drew.cell? ⟨g, j, none⟩ = some (.string yA) := ⟨Srt.cell hrA hxA, Srt.cell hrA hyA⟩
          have HPA := Lib.hid hpA
          have HRA := Lib.hid hrA
          have HMA := Lib.hid hmA
          have HXA := Lib.hid hxA
          have HYA := Lib.hid hyA
          clear hpA hrA hmA hxA hyA
          refine wp_region_plan [13, 15] [(0, 0), (1, 0), (2, 0), (3, 0), (4, 0), (5, 0), (6, 0), (7, 1), (8, 0), (9, 0), (10, 0), (11, 1), (12, 0), (13, 3), (14, 0), (15, 3)] (fun w' : World => w'.cell? ⟨g, i, none⟩ = some (.string xA) ∧ w'.cell? ⟨g, j, none⟩ = some (.string yA)) (by kernel_rfl) (by kernel_rfl) (fun d v c a w h => by first | (cases d <;> exact h) | exact HP d v c a w h) ?_
          repeat ((first | refine plan_skip rfl rfl ?_ | refine plan_pass2 rfl rfl ?_ | refine plan_pass3 rfl rfl ?_ | (refine plan_take (v := ?_) rfl rfl ?_ ?_; rotate_left; focus (intro w0; go_simp; try with_reducible rfl)) | (refine plan_held (v := ?_) rfl rfl hSA ?_ ?_; rotate_left; focus (intro w0 hSw; (try dsimp only at hSw); go_split_ands; go_simp; try with_reducible rfl)) | refine plan_skip1 rfl rfl hSA ?_); simp only [nA, nB, nC, Act.put, nD, nE, nF])
          (refine plan_end rfl rfl rfl fun K hK => ?_; (try simp only [nA, nB, nC]))
          refine wp_store_row1 9 _ _ rfl (Row.drew HRA.out) g (i) (.string yA) rfl rfl rfl (by rw [Srt.len' HRA.out]; omega) sSz rfl ?_
          intro W3 HR3 HM3
          refine hK _ _ ?_
          clear hK K hSA
          try simp only [nA, nB, nC, Act.put, nD, nE, nF]
          repeat ((first | refine plan_skip rfl rfl ?_ | refine plan_pass2 rfl rfl ?_ | refine plan_pass3 rfl rfl ?_ | (refine plan_take (v := ?_) rfl rfl ?_ ?_; rotate_left; focus (intro w0; go_simp; try with_reducible rfl))); simp only [nA, nB, nC, Act.put, nD, nE, nF])
          (refine plan_end rfl rfl rfl fun K hK => ?_; (try simp only [nA, nB, nC]))
          refine wp_store_row1 9 _ _ rfl HR3.out g (j) (.string xA) rfl rfl rfl (by rw [List.length_set, Srt.len' HRA.out]; omega) sSz rfl ?_
          intro W4 HR4 HM4
          refine hK _ _ ?_
          clear hK K
          try simp only [nA, nB, nC, Act.put, nD, nE, nF]
          refine plan_nil ?_
          have hs4 : Srd g n cap ss0 w0 W4 := Srt.swap HPA.out HRA.out HMA.out HXA.out HYA.out HR4.out (((Mod.refl _ _).drew.trans HM3.out fun q hq => .inl hq).trans HM4.out fun q hq => .inl hq)
          clear HPA HRA HMA HXA HYA HR3 HM3 HR4 HM4
          have HS4 := Lib.hid hs4
          clear hs4
          go_wp2
          go_roundw
          case rel => exact ⟨i + 1, jq, by omega, by omega, by have := H_jq.out; omega, by have := H_jq.out; omega, by go_num, rfl, HS4.out⟩
          case measure => have := H_jq.out; simp [intOf]; omega
end
end Go.Proofs.YtcccdlmngddalaaGreat
