/- GroupEnds: the walk. -/
import Derived.Test.YtcccdlmngddalaaGreatGrSe
import Derived.Test.YtcccdlmngddalaaGreatGrLay
import Derived.Test.YtcccdlmngddalaaGreatGrSb
import Derived.Test.YtcccdlmngddalaaGreatGrSc
import Derived.Test.YtcccdlmngddalaaGreatGrSd
import Derived.Test.YtcccdlmngddalaaGreatGrU
import Derived.Test.YtcccdlmngddalaaGreatSym
import Derived.ProofKit
import Derived.OpenShut
import Derived.Deep.Slices
import Derived.Test.YtcccdlmngddalaaGreatGrGf
import Derived.Test.YtcccdlmngddalaaGreatGrV
import Derived.Maps.Ext
import Derived.Laws.IdiomRangeMap
import Derived.Deep.LoopGhost
import Derived.Test.YtcccdlmngddalaaGreatLives17
namespace Go.Proofs.YtcccdlmngddalaaGreat
open Go.RowKit Go.Sort Go.Shelf Go.Lib
set_option linter.unusedVariables false
set_option linter.unusedSimpArgs false
theorem xsSz : (Tryz.prog.info? 195).map (·.size) = some 1 := by kernel_rfl
theorem Tryz.sortFSx : SlLaysF0.n6 Tryz.prog Tryz.sortFS_ren := { Tryz.sortFS with }
theorem nextS {w : World} {x X : Nat} (hb : Blk w x 195 [.int .u64 (X : Int)]) (hX : X < 18446744073709551616) : Calls Tryz.prog 174 #[.pointer (some ⟨x, 0, none⟩)] w fun e w' => ∃ Y : Nat, Y < 18446744073709551616 ∧ e = .returned (.int .u64 (Y : Int)) ∧ Blk w' x 195 [.int .u64 (Y : Int)] ∧ Mod (fun k => k = x) w w' := by
  refine (AnyF.xorshift_Next (P := Tryz.prog) (ρ := Tryz.sortFS_ren) { Tryz.sortFSx with } x 0 X hX w (hb.cell rfl) (hb.free 0)).mono ?_
  rintro e w' ⟨rfl, rfl⟩
  exact ⟨_, Go.Sort.xorNextN_lt X hX, rfl, (hb.set 0 _), ((((Mod.refl (fun k => k = x) w).setCell (p := ⟨x, 0, none⟩) (.inl rfl) _)).drew.drew.drew)⟩
theorem npS (L : Nat) (hL : 0 < L) (hL2 : L ≤ 49) (w : World) : Calls Tryz.prog 173 #[.int .i64 (L : Int)] w fun e w' => (∃ M : Nat, 1 ≤ M ∧ M ≤ 2 * L ∧ e = .returned (.int .u64 (M : Int))) ∧ w' = w := by
  refine (AnyF.nextPowerOfTwo (P := Tryz.prog) (ρ := Tryz.sortFS_ren) { Tryz.sortFSx with } L (by omega) w).mono ?_
  rintro e w' ⟨rfl, rfl⟩
  refine ⟨⟨_, ?_, ?_, rfl⟩, rfl⟩
  · rw [Nat.one_shiftLeft]; exact Nat.two_pow_pos _
  · rw [Nat.one_shiftLeft]; exact two_pow_bitsLen_le hL
section
variable {c g n cap : Nat} {ss0 : List ByteArray} {w0 : World}
set_option maxRecDepth 100000 in
set_option maxHeartbeats 4000000 in
theorem bkpS (HC : Hid (SCx c g n cap ss0 w0)) {W : World} (hS : Srd g n cap ss0 w0 W) (a b : Nat) (hab : a + 12 < b) (hb : b ≤ n) :
    Calls Tryz.prog 179 #[.slice (some ⟨g, 0, none⟩) n cap, .int .i64 (a : Int), .int .i64 (b : Int), .func (.func 102) #[.pointer (some ⟨c, 0, none⟩)] #[]] W fun e W' => e = .returned (.tuple #[]) ∧ Srd g n cap ss0 w0 W' := by
  have hn4 := HC.out.n4
  obtain ⟨L, hL⟩ : ∃ q : Nat, q = b - a := ⟨_, rfl⟩
  have H_L := Lib.hid hL
  have e_L : (b : Int) - (a : Int) = (L : Int) := by omega
  have w_L : IntKind.i64.wrap (L : Int) = (L : Int) := IntWalk.i64_in _ (by omega)
  clear hL
  obtain ⟨q4, hq4⟩ : ∃ q : Nat, q = L / 4 := ⟨_, rfl⟩
  have H_q4 := Lib.hid hq4
  have w_q4 : IntKind.i64.wrap (q4 : Int) = (q4 : Int) := IntWalk.i64_in _ (by omega)
  clear hq4
  have e_q4 : ((L : Nat) : Int).tdiv 4 = (q4 : Int) := by rw [H_q4.out]; exact Int.ofNat_tdiv L 4 |>.symm
  have hq4 : 3 ≤ q4 ∧ 4 * q4 ≤ L := by have h1 := H_q4.out; have h2 := H_L.out; omega
  have hL : a + L ≤ b ∧ b ≤ a + L := by have h2 := H_L.out; omega
  obtain ⟨m2, hm2⟩ : ∃ q : Nat, q = q4 * 2 := ⟨_, rfl⟩
  have H_m2 := Lib.hid hm2
  have e_m2 : (q4 : Int) * 2 = (m2 : Int) := by omega
  have w_m2 : IntKind.i64.wrap (m2 : Int) = (m2 : Int) := IntWalk.i64_in _ (by omega)
  clear hm2
  have hm2 : m2 ≤ 2 * q4 := by have h1 := H_m2.out; omega
  obtain ⟨x0, hx0⟩ : ∃ q : Nat, q = a + m2 := ⟨_, rfl⟩
  have H_x0 := Lib.hid hx0
  have e_x0 : (a : Int) + (m2 : Int) = (x0 : Int) := by omega
  have w_x0 : IntKind.i64.wrap (x0 : Int) = (x0 : Int) := IntWalk.i64_in _ (by omega)
  have l_x0 : x0 < n := by omega
  have k_x0 : (x0 : Int) < (n : Int) := by omega
  clear hx0
  have hx0 : a + m2 ≤ x0 ∧ x0 ≤ a + m2 := by have h1 := H_x0.out; omega
  have hm2' : 6 ≤ m2 := by have h1 := H_m2.out; omega
  obtain ⟨i0, hi0⟩ : ∃ q : Nat, q = x0 - 1 := ⟨_, rfl⟩
  have H_i0 := Lib.hid hi0
  have e_i0 : (x0 : Int) - 1 = (i0 : Int) := by omega
  have w_i0 : IntKind.i64.wrap (i0 : Int) = (i0 : Int) := IntWalk.i64_in _ (by omega)
  have l_i0 : i0 < n := by omega
  have k_i0 : (i0 : Int) < (n : Int) := by omega
  clear hi0
  obtain ⟨i1, hi1⟩ : ∃ q : Nat, q = x0 + 1 := ⟨_, rfl⟩
  have H_i1 := Lib.hid hi1
  have e_i1 : (x0 : Int) + 1 = (i1 : Int) := by omega
  have w_i1 : IntKind.i64.wrap (i1 : Int) = (i1 : Int) := IntWalk.i64_in _ (by omega)
  have l_i1 : i1 < n := by omega
  have k_i1 : (i1 : Int) < (n : Int) := by omega
  clear hi1
  have hi01 : i0 + 1 ≤ x0 ∧ x0 ≤ i0 + 1 ∧ i1 ≤ x0 + 1 ∧ x0 + 1 ≤ i1 := by have h1 := H_i0.out; have h2 := H_i1.out; omega
  have hL8 : (8 : Int) ≤ (L : Int) := by omega
  have uL : IntKind.u64.wrap (L : Int) = (L : Int) := by simp [IntKind.wrap, IntKind.bits, IntKind.signed]; omega
  have hqg : W.heap.size ≠ g := by
    obtain ⟨ss, _, h2, _⟩ := hS
    obtain ⟨a', cap', e1, _, _, hg⟩ := Row.form h2
    obtain ⟨g', e2, _, hlt, _⟩ := hg (by omega)
    simp only [Value.slice.injEq] at e1
    obtain ⟨e1, -, -⟩ := e1
    rw [← e1] at e2
    simp only [Option.some.injEq, Addr.mk.injEq] at e2
    omega
  have hq0 : w0.heap.size ≤ W.heap.size := by
    obtain ⟨ss, _, _, h3⟩ := hS
    exact h3.size
  have HX0 : Hid (Blk (W.alloc (.cells #[.int .u64 0] 195 (0, 0))) W.heap.size 195 [.int .u64 0]) := Lib.hid (Blk.new W _ [.int .u64 0])
  have HS0 := Lib.hid (hS.calm ((Mod.refl _ _).alloc (.cells #[.int .u64 0] 195 (0, 0))))
  have HBX0 := Lib.hid (And.intro hqg hq0)
  clear hS hqg hq0
  go_enter Tryz.func179, Tryz.ntmps179
  go_wp2_with (refine wpList_store_blk1 rfl 195 _ _ rfl W.heap.size 0 195 _ (.int .u64 (L : Int)) rfl (by go_simp) HX0.out (by simp) xsSz rfl ?_; intro W1 HX1 HM1)
  have HS1 := Lib.hid (HS0.out.aside HM1.out HBX0.out.1 HBX0.out.2)
  obtain ⟨bx, hbx⟩ : ∃ bx, bx = W.heap.size := ⟨_, rfl⟩
  have HX1' : Hid (Blk W1 bx 195 [.int .u64 (L : Int)]) := Lib.hid (by rw [hbx]; exact HX1.out)
  have HBX : Hid (bx ≠ g ∧ w0.heap.size ≤ bx) := Lib.hid (by rw [hbx]; exact HBX0.out)
  clear HX0 HS0 HM1 HX1
  refine (npS L (by omega) (by omega) _).mono ?_
  rintro e w' ⟨⟨M, hM1, hM2, rfl⟩, rfl⟩
  obtain ⟨m1, hm1⟩ : ∃ q : Nat, q = M - 1 := ⟨_, rfl⟩
  have H_m1 := Lib.hid hm1
  have e_m1 : (M : Int) - 1 = (m1 : Int) := by omega
  have u_m1 : IntKind.u64.wrap (m1 : Int) = (m1 : Int) := by simp [IntKind.wrap, IntKind.bits, IntKind.signed]; omega
  have hm12 : m1 < 2 * L := by omega
  clear hm1
  go_wp2_with fail
  rw [← hbx]
  have HBE := Lib.hid hbx
  clear hbx
  go_loopw [11] (fun iv wr => ∃ i X : Nat, i0 ≤ i ∧ i ≤ i1 + 1 ∧ iv = .int .i64 (i : Int) ∧ X < 18446744073709551616 ∧ Blk wr bx 195 [.int .u64 (X : Int)] ∧ Srd g n cap ss0 w0 wr) (fun iv _ => i1 + 2 - (intOf iv).toNat)
  case atStart => exact ⟨i0, L, by omega, by omega, rfl, by omega, HX1'.out, HS1.out⟩
  case round =>
    clear HX1' HS1
    obtain ⟨i, X, hi0, hi1, rfl, hX, hbx, hs⟩ := hrel
    have HSI := Lib.hid hs
    have HXI := Lib.hid hbx
    clear hs hbx
    by_cases hii : i ≤ i1
    · have qii : (i : Int) ≤ (i1 : Int) := by omega
      have hin : i < n := by omega
      have qin : (i : Int) < (n : Int) := by omega
      go_wp2_with fail
      refine (nextS HXI.out hX).mono ?_
      rintro e W2 ⟨Y, hY, rfl, hb2, hm2⟩
      have HX2 := Lib.hid hb2
      have hs2 := HSI.out.aside hm2 HBX.out.1 HBX.out.2
      clear hb2 hm2 HSI HXI
      obtain ⟨O, hO⟩ : ∃ O : Nat, O = Y &&& m1 := ⟨_, rfl⟩
      have hO1 : O ≤ m1 := by rw [hO]; exact Nat.and_le_right
      have e_O : bits .and .u64 (Y : Int) (m1 : Int) = (O : Int) := by rw [bits_and_u64_nat _ _ hY (by omega), hO]
      have w_O : IntKind.i64.wrap (O : Int) = (O : Int) := IntWalk.i64_in _ (by omega)
      clear hO
      by_cases hLO : L ≤ O
      · have qLO : (L : Int) ≤ (O : Int) := by omega
        obtain ⟨o2, ho2⟩ : ∃ q : Nat, q = O - L := ⟨_, rfl⟩
        have H_o2 := Lib.hid ho2
        have e_o2 : (O : Int) - (L : Int) = (o2 : Int) := by omega
        have w_o2 : IntKind.i64.wrap (o2 : Int) = (o2 : Int) := IntWalk.i64_in _ (by omega)
        clear ho2
        have ho2 : o2 < L := by have := H_o2.out; omega
        go_wp2_with fail
        obtain ⟨p, hp⟩ : ∃ q : Nat, q = a + o2 := ⟨_, rfl⟩
        have H_p := Lib.hid hp
        have e_p : (a : Int) + (o2 : Int) = (p : Int) := by omega
        have w_p : IntKind.i64.wrap (p : Int) = (p : Int) := IntWalk.i64_in _ (by omega)
        have l_p : p < n := by omega
        have k_p : (p : Int) < (n : Int) := by omega
        clear hp
        obtain ⟨ssA, hpA, hrA, hmA⟩ := hs2
        obtain ⟨xA, hxA⟩ : ∃ x, ssA[i]? = some x := ⟨_, List.getElem?_eq_getElem (by rw [Srt.len hrA]; omega)⟩
        obtain ⟨yA, hyA⟩ : ∃ x, ssA[p]? = some x := ⟨_, List.getElem?_eq_getElem (by rw [Srt.len hrA]; omega)⟩
        have hSA : W2.drew.cell? ⟨g, i, none⟩ = some (.string xA) ∧ W2.drew.cell? ⟨g, p, none⟩ = some (.string yA) := ⟨Srt.cell hrA hxA, Srt.cell hrA hyA⟩
        have HPA := Lib.hid hpA
        have HRA := Lib.hid hrA
        have HMA := Lib.hid hmA
        have HXA := Lib.hid hxA
        have HYA := Lib.hid hyA
        clear hpA hrA hmA hxA hyA
        refine wp_region_plan [17, 19] [(0, 0), (1, 0), (2, 0), (3, 0), (4, 0), (5, 0), (6, 0), (7, 0), (8, 0), (9, 0), (10, 0), (11, 1), (12, 0), (13, 0), (14, 0), (15, 1), (16, 0), (17, 3), (18, 0), (19, 3)] (fun w' : World => w'.cell? ⟨g, i, none⟩ = some (.string xA) ∧ w'.cell? ⟨g, p, none⟩ = some (.string yA)) (by kernel_rfl) (by kernel_rfl) (fun d v c a w h => by first | (cases d <;> exact h) | exact HP d v c a w h) ?_
        repeat ((first | refine plan_skip rfl rfl ?_ | refine plan_pass2 rfl rfl ?_ | refine plan_pass3 rfl rfl ?_ | (refine plan_take (v := ?_) rfl rfl ?_ ?_; rotate_left; focus (intro w0; go_simp; try with_reducible rfl)) | (refine plan_held (v := ?_) rfl rfl hSA ?_ ?_; rotate_left; focus (intro w0 hSw; (try dsimp only at hSw); go_split_ands; go_simp; try with_reducible rfl)) | refine plan_skip1 rfl rfl hSA ?_); simp only [List.getElem_toArray, List.getElem_cons_succ, List.getElem_cons_zero, Act.put, List.setIfInBounds_toArray, List.set_cons_zero, List.set_cons_succ])
        (refine plan_end rfl rfl rfl fun K hK => ?_; (try simp only [List.getElem_toArray, List.getElem_cons_succ, List.getElem_cons_zero]))
        refine wp_store_row1 9 _ _ rfl (Row.drew HRA.out) g (i) (.string yA) rfl rfl rfl (by rw [Srt.len' HRA.out]; omega) sSz rfl ?_
        intro W3 HR3 HM3
        refine hK _ _ ?_
        clear hK K hSA
        try simp only [List.getElem_toArray, List.getElem_cons_succ, List.getElem_cons_zero, Act.put, List.setIfInBounds_toArray, List.set_cons_zero, List.set_cons_succ]
        repeat ((first | refine plan_skip rfl rfl ?_ | refine plan_pass2 rfl rfl ?_ | refine plan_pass3 rfl rfl ?_ | (refine plan_take (v := ?_) rfl rfl ?_ ?_; rotate_left; focus (intro w0; go_simp; try with_reducible rfl))); simp only [List.getElem_toArray, List.getElem_cons_succ, List.getElem_cons_zero, Act.put, List.setIfInBounds_toArray, List.set_cons_zero, List.set_cons_succ])
        (refine plan_end rfl rfl rfl fun K hK => ?_; (try simp only [List.getElem_toArray, List.getElem_cons_succ, List.getElem_cons_zero]))
        refine wp_store_row1 9 _ _ rfl HR3.out g (p) (.string xA) rfl rfl rfl (by rw [List.length_set, Srt.len' HRA.out]; omega) sSz rfl ?_
        intro W4 HR4 HM4
        refine hK _ _ ?_
        clear hK K
        try simp only [List.getElem_toArray, List.getElem_cons_succ, List.getElem_cons_zero, Act.put, List.setIfInBounds_toArray, List.set_cons_zero, List.set_cons_succ]
        refine plan_nil ?_
        have hs4 : Srd g n cap ss0 w0 W4 := Srt.swap HPA.out HRA.out HMA.out HXA.out HYA.out HR4.out (((Mod.refl _ _).drew.trans HM3.out fun q hq => .inl hq).trans HM4.out fun q hq => .inl hq)
        have HX4 : Hid (Blk W4 bx 195 [.int .u64 (Y : Int)]) := Lib.hid ((Blk.keep (Blk.keep HX2.out.drew HM3.out fun e => HBX.out.1 e) HM4.out fun e => HBX.out.1 e))
        clear HPA HRA HMA HXA HYA HR3 HM3 HR4 HM4
        have HS4 := Lib.hid hs4
        clear hs4
        go_wp2
        go_roundw
        case rel => exact ⟨i + 1, Y, by omega, by omega, by go_num, hY, HX4.out, HS4.out⟩
        case measure => simp [intOf]; omega
      · have qLO : ¬ (L : Int) ≤ (O : Int) := by omega
        go_wp2_with fail
        obtain ⟨p, hp⟩ : ∃ q : Nat, q = a + O := ⟨_, rfl⟩
        have H_p := Lib.hid hp
        have e_p : (a : Int) + (O : Int) = (p : Int) := by omega
        have w_p : IntKind.i64.wrap (p : Int) = (p : Int) := IntWalk.i64_in _ (by omega)
        have l_p : p < n := by omega
        have k_p : (p : Int) < (n : Int) := by omega
        clear hp
        obtain ⟨ssA, hpA, hrA, hmA⟩ := hs2
        obtain ⟨xA, hxA⟩ : ∃ x, ssA[i]? = some x := ⟨_, List.getElem?_eq_getElem (by rw [Srt.len hrA]; omega)⟩
        obtain ⟨yA, hyA⟩ : ∃ x, ssA[p]? = some x := ⟨_, List.getElem?_eq_getElem (by rw [Srt.len hrA]; omega)⟩
        have hSA : W2.drew.cell? ⟨g, i, none⟩ = some (.string xA) ∧ W2.drew.cell? ⟨g, p, none⟩ = some (.string yA) := ⟨Srt.cell hrA hxA, Srt.cell hrA hyA⟩
        have HPA := Lib.hid hpA
        have HRA := Lib.hid hrA
        have HMA := Lib.hid hmA
        have HXA := Lib.hid hxA
        have HYA := Lib.hid hyA
        clear hpA hrA hmA hxA hyA
        refine wp_region_plan [17, 19] [(0, 0), (1, 0), (2, 0), (3, 0), (4, 0), (5, 0), (6, 0), (7, 0), (8, 0), (9, 0), (10, 0), (11, 1), (12, 0), (13, 0), (14, 0), (15, 1), (16, 0), (17, 3), (18, 0), (19, 3)] (fun w' : World => w'.cell? ⟨g, i, none⟩ = some (.string xA) ∧ w'.cell? ⟨g, p, none⟩ = some (.string yA)) (by kernel_rfl) (by kernel_rfl) (fun d v c a w h => by first | (cases d <;> exact h) | exact HP d v c a w h) ?_
        repeat ((first | refine plan_skip rfl rfl ?_ | refine plan_pass2 rfl rfl ?_ | refine plan_pass3 rfl rfl ?_ | (refine plan_take (v := ?_) rfl rfl ?_ ?_; rotate_left; focus (intro w0; go_simp; try with_reducible rfl)) | (refine plan_held (v := ?_) rfl rfl hSA ?_ ?_; rotate_left; focus (intro w0 hSw; (try dsimp only at hSw); go_split_ands; go_simp; try with_reducible rfl)) | refine plan_skip1 rfl rfl hSA ?_); simp only [List.getElem_toArray, List.getElem_cons_succ, List.getElem_cons_zero, Act.put, List.setIfInBounds_toArray, List.set_cons_zero, List.set_cons_succ])
        (refine plan_end rfl rfl rfl fun K hK => ?_; (try simp only [List.getElem_toArray, List.getElem_cons_succ, List.getElem_cons_zero]))
        refine wp_store_row1 9 _ _ rfl (Row.drew HRA.out) g (i) (.string yA) rfl rfl rfl (by rw [Srt.len' HRA.out]; omega) sSz rfl ?_
        intro W3 HR3 HM3
        refine hK _ _ ?_
        clear hK K hSA
        try simp only [List.getElem_toArray, List.getElem_cons_succ, List.getElem_cons_zero, Act.put, List.setIfInBounds_toArray, List.set_cons_zero, List.set_cons_succ]
        repeat ((first | refine plan_skip rfl rfl ?_ | refine plan_pass2 rfl rfl ?_ | refine plan_pass3 rfl rfl ?_ | (refine plan_take (v := ?_) rfl rfl ?_ ?_; rotate_left; focus (intro w0; go_simp; try with_reducible rfl))); simp only [List.getElem_toArray, List.getElem_cons_succ, List.getElem_cons_zero, Act.put, List.setIfInBounds_toArray, List.set_cons_zero, List.set_cons_succ])
        (refine plan_end rfl rfl rfl fun K hK => ?_; (try simp only [List.getElem_toArray, List.getElem_cons_succ, List.getElem_cons_zero]))
        refine wp_store_row1 9 _ _ rfl HR3.out g (p) (.string xA) rfl rfl rfl (by rw [List.length_set, Srt.len' HRA.out]; omega) sSz rfl ?_
        intro W4 HR4 HM4
        refine hK _ _ ?_
        clear hK K
        try simp only [List.getElem_toArray, List.getElem_cons_succ, List.getElem_cons_zero, Act.put, List.setIfInBounds_toArray, List.set_cons_zero, List.set_cons_succ]
        refine plan_nil ?_
        have hs4 : Srd g n cap ss0 w0 W4 := Srt.swap HPA.out HRA.out HMA.out HXA.out HYA.out HR4.out (((Mod.refl _ _).drew.trans HM3.out fun q hq => .inl hq).trans HM4.out fun q hq => .inl hq)
        have HX4 : Hid (Blk W4 bx 195 [.int .u64 (Y : Int)]) := Lib.hid ((Blk.keep (Blk.keep HX2.out.drew HM3.out fun e => HBX.out.1 e) HM4.out fun e => HBX.out.1 e))
        clear HPA HRA HMA HXA HYA HR3 HM3 HR4 HM4
        have HS4 := Lib.hid hs4
        clear hs4
        go_wp2
        go_roundw
        case rel => exact ⟨i + 1, Y, by omega, by omega, by go_num, hY, HX4.out, HS4.out⟩
        case measure => simp [intOf]; omega
    · have qii : ¬ (i : Int) ≤ (i1 : Int) := by omega
      go_wp2
      go_end0
      exact ⟨rfl, HSI.out⟩
end
end Go.Proofs.YtcccdlmngddalaaGreat
namespace Go.Proofs.YtcccdlmngddalaaGreat
open Go.RowKit
set_option linter.unusedVariables false
set_option linter.unusedSimpArgs false
section
variable {c g n cap : Nat} {ss0 : List ByteArray} {w0 : World}
set_option maxRecDepth 100000 in
set_option maxHeartbeats 4000000 in
theorem pdq_step (HC : Hid (SCx c g n cap ss0 w0)) (D : Nat) (IH : Hid (∀ (W : World) (a b l : Nat), Srd g n cap ss0 w0 W → a ≤ b → b ≤ n → b - a < D → l ≤ 64 → Calls Tryz.prog 168 #[.slice (some ⟨g, 0, none⟩) n cap, .int .i64 (a : Int), .int .i64 (b : Int), .int .i64 (l : Int), .func (.func 102) #[.pointer (some ⟨c, 0, none⟩)] #[]] W fun e W' => e = .returned (.tuple #[]) ∧ Srd g n cap ss0 w0 W'))
    {W : World} (hS : Srd g n cap ss0 w0 W) (a b l : Nat) (hab : a ≤ b) (hb : b ≤ n) (hD : b - a ≤ D) (hl : l ≤ 64) :
    Calls Tryz.prog 168 #[.slice (some ⟨g, 0, none⟩) n cap, .int .i64 (a : Int), .int .i64 (b : Int), .int .i64 (l : Int), .func (.func 102) #[.pointer (some ⟨c, 0, none⟩)] #[]] W fun e W' => e = .returned (.tuple #[]) ∧ Srd g n cap ss0 w0 W' := by
  have hn4 := HC.out.n4
  have HS := Lib.hid hS
  clear hS
  go_enter Tryz.func168, Tryz.ntmps168
  go_wp2_with fail
  go_loopw [1, 2, 3, 10, 11] (fun av bv lv xv yv wr => ∃ (a b l : Nat) (x y : Bool), a ≤ b ∧ b ≤ n ∧ b - a ≤ D ∧ l ≤ 64 ∧ av = .int .i64 (a : Int) ∧ bv = .int .i64 (b : Int) ∧ lv = .int .i64 (l : Int) ∧ xv = .bool x ∧ yv = .bool y ∧ Srd g n cap ss0 w0 wr) (fun av bv _ _ _ _ => (intOf bv - intOf av).toNat)
  case atStart => exact ⟨a, b, l, true, true, hab, hb, hD, hl, rfl, rfl, rfl, rfl, rfl, HS.out⟩
  case round =>
    clear HS hab hb hD hl
    obtain ⟨a, b, l, x, y, hab, hb, hD, hl, rfl, rfl, rfl, rfl, rfl, hs⟩ := hrel
    have HSI := Lib.hid hs
    clear hs
    obtain ⟨L, hL⟩ : ∃ q : Nat, q = b - a := ⟨_, rfl⟩
    have H_L := Lib.hid hL
    have e_L : (b : Int) - (a : Int) = (L : Int) := by omega
    have w_L : IntKind.i64.wrap (L : Int) = (L : Int) := IntWalk.i64_in _ (by omega)
    clear hL
    have hL : a + L ≤ b ∧ b ≤ a + L := by have := H_L.out; omega
    by_cases h12 : L ≤ 12
    · have q12 : (L : Int) ≤ 12 := by omega
      go_wp2_with fail
      refine (insS HC HSI.out a b hab hb).mono ?_
      rintro e W1 ⟨rfl, hs1⟩
      have HS1 := Lib.hid hs1
      clear hs1
      go_wp2
      refine bodyPost_ret (results_none rfl _ _ _) rfl ?_
      exact ⟨rfl, HS1.out⟩
    · have q12 : ¬ (L : Int) ≤ 12 := by omega
      by_cases hl0 : l = 0
      · subst hl0
        go_wp2_with fail
        refine (hpsS HC HSI.out a b (by omega) hb).mono ?_
        rintro e W1 ⟨rfl, hs1⟩
        have HS1 := Lib.hid hs1
        clear hs1
        go_wp2
        refine bodyPost_ret (results_none rfl _ _ _) rfl ?_
        exact ⟨rfl, HS1.out⟩
      · have hl1 : ¬ (l : Int) = 0 := by omega
        have hl2 : ((l : Int) == 0) = false := by simp [hl0]
        obtain ⟨lp, hlp⟩ : ∃ q : Nat, q = l - 1 := ⟨_, rfl⟩
        have H_lp := Lib.hid hlp
        have e_lp : (l : Int) - 1 = (lp : Int) := by omega
        have w_lp : IntKind.i64.wrap (lp : Int) = (lp : Int) := IntWalk.i64_in _ (by omega)
        clear hlp
        go_upto_if 39 with fail
        go_cut [3] from 40 to 47 (fun lv wx => ∃ l' : Nat, l' ≤ 64 ∧ lv = .int .i64 (l' : Int) ∧ Srd g n cap ss0 w0 wx)
        case first =>
          cases x with
          | true =>
            go_wp2_with fail
            go_meet
            exact ⟨l, hl, rfl, HSI.out⟩
          | false =>
            go_wp2_with fail
            refine (bkpS HC HSI.out a b (by omega) hb).mono ?_
            rintro e W1 ⟨rfl, hs1⟩
            have HS1 := Lib.hid hs1
            clear hs1
            go_wp2_with fail
            go_meet
            exact ⟨lp, by have := H_lp.out; omega, rfl, HS1.out⟩
        case rest =>
          rename World => wA
          clear HSI
          obtain ⟨l', hl', rfl, hs⟩ := hcut
          have HSA := Lib.hid hs
          clear hs
          go_wp2_with fail
          refine (pivS HC HSA.out a b (by omega) hb).mono ?_
          rintro e W1 ⟨p, h, hpa, hpb, rfl, hs1⟩
          have HS1 := Lib.hid hs1
          clear hs1 HSA
          go_upto_if 56 with fail
          go_cut [13, 14] from 57 to 68 (fun pv hv wx => ∃ (p' : Nat) (h' : Int), a ≤ p' ∧ p' < b ∧ pv = .int .i64 (p' : Int) ∧ hv = .int .i64 h' ∧ Srd g n cap ss0 w0 wx)
          case first =>
            by_cases hh : h = 2
            · subst hh
              obtain ⟨b1, hb1⟩ : ∃ q : Nat, q = b - 1 := ⟨_, rfl⟩
              have H_b1 := Lib.hid hb1
              have e_b1 : (b : Int) - 1 = (b1 : Int) := by omega
              have w_b1 : IntKind.i64.wrap (b1 : Int) = (b1 : Int) := IntWalk.i64_in _ (by omega)
              clear hb1
              obtain ⟨pa, hpa⟩ : ∃ q : Nat, q = p - a := ⟨_, rfl⟩
              have H_pa := Lib.hid hpa
              have e_pa : (p : Int) - (a : Int) = (pa : Int) := by omega
              have w_pa : IntKind.i64.wrap (pa : Int) = (pa : Int) := IntWalk.i64_in _ (by omega)
              clear hpa
              have hb1 : b1 + 1 ≤ b ∧ b ≤ b1 + 1 ∧ pa + a ≤ p ∧ p ≤ pa + a := by have := H_b1.out; have := H_pa.out; omega
              obtain ⟨pp, hpp⟩ : ∃ q : Nat, q = b1 - pa := ⟨_, rfl⟩
              have H_pp := Lib.hid hpp
              have e_pp : (b1 : Int) - (pa : Int) = (pp : Int) := by omega
              have w_pp : IntKind.i64.wrap (pp : Int) = (pp : Int) := IntWalk.i64_in _ (by omega)
              clear hpp
              go_wp2_with fail
              refine (revS HC HS1.out a b (by omega) hb).mono ?_
              rintro e W2 ⟨rfl, hs2⟩
              have HS2 := Lib.hid hs2
              clear hs2
              go_wp2_with fail
              go_meet
              exact ⟨pp, 1, by have := H_pp.out; omega, by have := H_pp.out; omega, rfl, rfl, HS2.out⟩
            · have hh2 : (h == 2) = false := by simp [hh]
              go_wp2_with fail
              go_meet
              exact ⟨p, h, hpa, hpb, rfl, rfl, HS1.out⟩
          case rest =>
            rename World => wB
            clear HS1 hpa hpb
            obtain ⟨p, h, hpa, hpb, rfl, rfl, hs⟩ := hcut
            have HSB := Lib.hid hs
            clear hs
            go_upto_region 15 with fail
            go_cut [75] from 68 to 76 (fun v wx => ∃ z : Bool, v = .bool z ∧ Srd g n cap ss0 w0 wx)
            case first =>
              cases x <;> cases y <;> (go_wp2_with fail; go_meet; exact ⟨_, rfl, HSB.out⟩)
            case rest =>
              rename World => wC
              clear HSB
              obtain ⟨z, rfl, hs⟩ := hcut
              have HSC := Lib.hid hs
              clear hs
              go_upto_if 75 with fail
              go_cut [] from 76 to 81 (fun wx => Srd g n cap ss0 w0 wx)
              case first =>
                cases z with
                | false =>
                  go_wp2_with fail
                  go_meet
                  exact HSC.out
                | true =>
                  go_wp2_with fail
                  refine (pisS HC HSC.out a b (by omega) hb).mono ?_
                  rintro e W2 ⟨z2, rfl, hs2⟩
                  have HS2 := Lib.hid hs2
                  clear hs2
                  cases z2 with
                  | true =>
                    go_wp2
                    refine bodyPost_ret (results_none rfl _ _ _) rfl ?_
                    exact ⟨rfl, HS2.out⟩
                  | false =>
                    go_wp2_with fail
                    go_meet
                    exact HS2.out
              case rest =>
                rename World => wD
                clear HSC
                have hs := hcut
                clear hcut
                have hpn : p < n := by omega
                have qpn : (p : Int) < (n : Int) := by omega
                go_upto_region 17 with fail
                go_cut [97] from 81 to 98 (fun v wx => ∃ z : Bool, v = .bool z ∧ Srd g n cap ss0 w0 wx)
                case first =>
                  by_cases ha0 : 0 < a
                  · have q4 : decide ((a : Int) > 0) = true := decide_eq_true (by omega)
                    have q3 : (a : Int) > 0 := by omega
                    obtain ⟨am, ham⟩ : ∃ q : Nat, q = a - 1 := ⟨_, rfl⟩
                    have H_am := Lib.hid ham
                    have e_am : (a : Int) - 1 = (am : Int) := by omega
                    have w_am : IntKind.i64.wrap (am : Int) = (am : Int) := IntWalk.i64_in _ (by omega)
                    have l_am : am < n := by omega
                    have k_am : (am : Int) < (n : Int) := by omega
                    clear ham
                    obtain ⟨ssA, hpA, hrA, hmA⟩ := hs
                    obtain ⟨xA, hxA⟩ : ∃ x, ssA[am]? = some x := ⟨_, List.getElem?_eq_getElem (by rw [Srt.len hrA]; omega)⟩
                    obtain ⟨yA, hyA⟩ : ∃ x, ssA[p]? = some x := ⟨_, List.getElem?_eq_getElem (by rw [Srt.len hrA]; omega)⟩
                    have hSA : wD.drew.cell? ⟨g, am, none⟩ = some (.string xA) ∧ wD.drew.cell? ⟨g, p, none⟩ = some (.string yA) := ⟨Srt.cell hrA hxA, Srt.cell hrA hyA⟩
                    have hcA := HC.out.cmp wD.drew xA yA hmA.drew (hpA.mem_iff.1 (List.mem_of_getElem? hxA)) (hpA.mem_iff.1 (List.mem_of_getElem? hyA))
                    have HSA := Lib.hid (Srt.mk' hpA hrA hmA)
                    have HCA := Lib.hid hcA
                    clear hpA hrA hmA hxA hyA hcA
                    refine wp_region_plan [13] [(0, 0), (1, 0), (2, 0), (3, 0), (4, 0), (5, 0), (6, 0), (7, 0), (8, 1), (9, 0), (10, 0), (11, 0), (12, 1), (13, 3), (14, 0), (15, 0), (16, 0)] (fun w' : World => w'.cell? ⟨g, am, none⟩ = some (.string xA) ∧ w'.cell? ⟨g, p, none⟩ = some (.string yA)) (by kernel_rfl) (by kernel_rfl) (fun d v c a w h => by first | (cases d <;> exact h) | exact HP d v c a w h) ?_
                    repeat ((first | refine plan_skip rfl rfl ?_ | refine plan_pass2 rfl rfl ?_ | refine plan_pass3 rfl rfl ?_ | (refine plan_take (v := ?_) rfl rfl ?_ ?_; rotate_left; focus (intro w0; go_simp; try with_reducible rfl)) | (refine plan_held (v := ?_) rfl rfl hSA ?_ ?_; rotate_left; focus (intro w0 hSw; (try dsimp only at hSw); go_split_ands; go_simp; try with_reducible rfl)) | refine plan_skip1 rfl rfl hSA ?_); simp only [List.getElem_toArray, List.getElem_cons_succ, List.getElem_cons_zero, Act.put, List.setIfInBounds_toArray, List.set_cons_zero, List.set_cons_succ])
                    (refine plan_end rfl rfl rfl fun K hK => ?_; (try simp only [List.getElem_toArray, List.getElem_cons_succ, List.getElem_cons_zero]))
                    go_simp
                    refine HCA.out.mono ?_
                    rintro e W2 ⟨⟨rA, rfl⟩, hmA⟩
                    have hs2 : Srd g n cap ss0 w0 W2 := HSA.out.calm ((Mod.refl _ _).drew.trans hmA fun _ f => f.elim)
                    refine hK _ _ ?_
                    clear hK K hSA HSA HCA hmA
                    try simp only [List.getElem_toArray, List.getElem_cons_succ, List.getElem_cons_zero, Act.put, List.setIfInBounds_toArray, List.set_cons_zero, List.set_cons_succ]
                    have HS2 := Lib.hid hs2
                    clear hs2
                    by_cases hr : rA < 0
                    · have hd : decide (rA < 0) = true := decide_eq_true hr
                      repeat ((first | refine plan_skip rfl rfl ?_ | refine plan_pass2 rfl rfl ?_ | refine plan_pass3 rfl rfl ?_ | (refine plan_take (v := ?_) rfl rfl ?_ ?_; rotate_left; focus (intro w0; go_simp; try with_reducible rfl))); simp only [List.getElem_toArray, List.getElem_cons_succ, List.getElem_cons_zero, Act.put, List.setIfInBounds_toArray, List.set_cons_zero, List.set_cons_succ])
                      refine plan_nil ?_
                      go_wp2_with fail
                      go_meet
                      exact ⟨_, rfl, HS2.out⟩
                    · have hd : decide (rA < 0) = false := decide_eq_false hr
                      repeat ((first | refine plan_skip rfl rfl ?_ | refine plan_pass2 rfl rfl ?_ | refine plan_pass3 rfl rfl ?_ | (refine plan_take (v := ?_) rfl rfl ?_ ?_; rotate_left; focus (intro w0; go_simp; try with_reducible rfl))); simp only [List.getElem_toArray, List.getElem_cons_succ, List.getElem_cons_zero, Act.put, List.setIfInBounds_toArray, List.set_cons_zero, List.set_cons_succ])
                      refine plan_nil ?_
                      go_wp2_with fail
                      go_meet
                      exact ⟨_, rfl, HS2.out⟩
                  · have q4 : decide ((a : Int) > 0) = false := decide_eq_false (by omega)
                    have q3 : ¬ (a : Int) > 0 := by omega
                    have HS2 := Lib.hid hs.drew
                    clear hs
                    refine wp_region_plan [13] [(0, 0), (1, 0), (2, 0), (3, 0), (4, 0), (5, 0), (6, 0), (7, 0), (8, 1), (9, 0), (10, 0), (11, 0), (12, 1), (13, 3), (14, 0), (15, 0), (16, 0)] (fun w' : World => True) (by kernel_rfl) (by kernel_rfl) (fun d v c a w h => by first | (cases d <;> exact h) | exact HP d v c a w h) ?_
                    repeat ((first | refine plan_skip rfl rfl ?_ | refine plan_pass2 rfl rfl ?_ | refine plan_pass3 rfl rfl ?_ | (refine plan_take (v := ?_) rfl rfl ?_ ?_; rotate_left; focus (intro w0; go_simp; try with_reducible rfl)) | (refine plan_held (v := ?_) rfl rfl trivial ?_ ?_; rotate_left; focus (intro w0 hSw; (try dsimp only at hSw); go_split_ands; go_simp; try with_reducible rfl)) | refine plan_skip1 rfl rfl trivial ?_); simp only [List.getElem_toArray, List.getElem_cons_succ, List.getElem_cons_zero, Act.put, List.setIfInBounds_toArray, List.set_cons_zero, List.set_cons_succ])
                    refine plan_nil ?_
                    go_wp2_with fail
                    go_meet
                    exact ⟨_, rfl, HS2.out⟩
                case rest =>
                  rename World => wE
                  clear hs
                  obtain ⟨z3, rfl, hs⟩ := hcut
                  have HSE := Lib.hid hs
                  clear hs
                  cases z3 with
                  | true =>
                    go_wp2_with fail
                    refine (peqS HC HSE.out a b p (by omega) hb hpa hpb).mono ?_
                    rintro e W3 ⟨m, hm1, hm2, rfl, hs3⟩
                    have HS3 := Lib.hid hs3
                    clear hs3
                    go_wp2
                    go_roundw
                    case rel => exact ⟨m, b, l', x, y, hm2, hb, by omega, hl', rfl, rfl, rfl, rfl, rfl, HS3.out⟩
                    case measure => simp [intOf]; omega
                  | false =>
                    go_wp2_with fail
                    refine (parS HC HSE.out a b p (by omega) hb hpa hpb).mono ?_
                    rintro e W3 ⟨m, z4, hm1, hm2, rfl, hs3⟩
                    have HS3 := Lib.hid hs3
                    clear hs3
                    obtain ⟨ll, hll⟩ : ∃ q : Nat, q = m - a := ⟨_, rfl⟩
                    have H_ll := Lib.hid hll
                    have e_ll : (m : Int) - (a : Int) = (ll : Int) := by omega
                    have w_ll : IntKind.i64.wrap (ll : Int) = (ll : Int) := IntWalk.i64_in _ (by omega)
                    clear hll
                    obtain ⟨rl, hrl⟩ : ∃ q : Nat, q = b - m := ⟨_, rfl⟩
                    have H_rl := Lib.hid hrl
                    have e_rl : (b : Int) - (m : Int) = (rl : Int) := by omega
                    have w_rl : IntKind.i64.wrap (rl : Int) = (rl : Int) := IntWalk.i64_in _ (by omega)
                    clear hrl
                    obtain ⟨L8, hL8⟩ : ∃ q : Nat, q = L / 8 := ⟨_, rfl⟩
                    have H_L8 := Lib.hid hL8
                    have w_L8 : IntKind.i64.wrap (L8 : Int) = (L8 : Int) := IntWalk.i64_in _ (by omega)
                    clear hL8
                    have e_L8 : ((L : Nat) : Int).tdiv 8 = (L8 : Int) := by rw [H_L8.out]; exact Int.ofNat_tdiv L 8 |>.symm
                    obtain ⟨m1, hm1⟩ : ∃ q : Nat, q = m + 1 := ⟨_, rfl⟩
                    have H_m1 := Lib.hid hm1
                    have e_m1 : (m : Int) + 1 = (m1 : Int) := by omega
                    have w_m1 : IntKind.i64.wrap (m1 : Int) = (m1 : Int) := IntWalk.i64_in _ (by omega)
                    clear hm1
                    have hm1' : m1 ≤ m + 1 ∧ m + 1 ≤ m1 := by have := H_m1.out; omega
                    by_cases hlr : ll < rl
                    · have qlr : (ll : Int) < (rl : Int) := by omega
                      go_wp2_with fail
                      refine (IH.out W3 a m l' HS3.out hm1 (by omega) (by omega) hl').mono ?_
                      rintro e W4 ⟨rfl, hs4⟩
                      have HS4 := Lib.hid hs4
                      clear hs4
                      go_wp2
                      go_roundw
                      case rel => exact ⟨m1, b, l', _, z4, by omega, hb, by omega, hl', rfl, rfl, rfl, rfl, rfl, HS4.out⟩
                      case measure => simp [intOf]; omega
                    · have qlr : ¬ (ll : Int) < (rl : Int) := by omega
                      go_wp2_with fail
                      refine (IH.out W3 m1 b l' HS3.out (by omega) hb (by omega) hl').mono ?_
                      rintro e W4 ⟨rfl, hs4⟩
                      have HS4 := Lib.hid hs4
                      clear hs4
                      go_wp2
                      go_roundw
                      case rel => exact ⟨a, m, l', _, z4, hm1, by omega, by omega, hl', rfl, rfl, rfl, rfl, rfl, HS4.out⟩
                      case measure => simp [intOf]; omega
theorem pdqS (HC : Hid (SCx c g n cap ss0 w0)) : ∀ (D : Nat) (W : World) (a b l : Nat), Srd g n cap ss0 w0 W → a ≤ b → b ≤ n → b - a < D → l ≤ 64 → Calls Tryz.prog 168 #[.slice (some ⟨g, 0, none⟩) n cap, .int .i64 (a : Int), .int .i64 (b : Int), .int .i64 (l : Int), .func (.func 102) #[.pointer (some ⟨c, 0, none⟩)] #[]] W fun e W' => e = .returned (.tuple #[]) ∧ Srd g n cap ss0 w0 W'
  | 0, _, _, _, _, _, _, _, h, _ => absurd h (Nat.not_lt_zero _)
  | D + 1, W, a, b, l, hS, hab, hb, hD, hl => pdq_step HC D (Lib.hid (pdqS HC D)) hS a b l hab hb (by omega) hl
end
end Go.Proofs.YtcccdlmngddalaaGreat
namespace Go.Proofs.YtcccdlmngddalaaGreat
open Go.RowKit Go.ChangeShapes Go.WideShapes Go.ChangeAt
set_option linter.unusedVariables false
set_option linter.unusedSimpArgs false
set_option maxRecDepth 100000
/-- a call of a group's -/
structure GA where
  kind : Int
  wait : Int
  older : Int
  rk : Int
  g : Ad
  src : List Ad
  all : Bool
def GA.c (x : GA) (v : Value) : List Value := .int .i64 x.kind :: .int .i64 x.wait :: .int .i64 x.older :: (recC x.rk x.g v ++ [.bool x.all])
theorem GA.c_len (x : GA) (v : Value) : (x.c v).length = 23 := by
  unfold GA.c
  simp [recC_len]
structure ActsAt (w : World) (v : Value) (xs : List GA) (sv : Nat → Value) : Prop where
  form : ∃ ad cap, v = .slice ad xs.length cap ∧ xs.length ≤ cap ∧ cap ≤ maxLen ∧ (0 < xs.length → ∃ g o, ad = some ⟨g, o, none⟩ ∧ ∀ i x, xs[i]? = some x → w.rangeAt g (o + i * 23) (x.c (sv i)))
  rd : ∀ i x, xs[i]? = some x → RdA w (sv i) x.src
theorem ActsAt.keep0 {w w' : World} {v : Value} {xs : List GA} {sv : Nat → Value} (h : ActsAt w v xs sv) (hm : Mod (fun _ => False) w w') : ActsAt w' v xs sv := by
  obtain ⟨⟨ad, cap, e, h1, h2, h3⟩, h4⟩ := h
  refine ⟨⟨ad, cap, e, h1, h2, fun h0 => ?_⟩, fun i x hx => (h4 i x hx).keep0 hm⟩
  obtain ⟨g, o, e2, h5⟩ := h3 h0
  exact ⟨g, o, e2, fun i x hx => keepRange hm (h5 i x hx)⟩
theorem plain_at {a : Addr} {w : World} {u : Value} (h : w.cell? a = some u) : ∃ g o, a = ⟨g, o, none⟩ := by
  obtain ⟨g, o, sp⟩ := a
  cases sp with
  | none => exact ⟨g, o, rfl⟩
  | some x =>
    unfold World.cell? at h
    simp at h
    split at h <;> cases h
theorem take_1 {l : List Value} {j : Nat} {v : Value} (h : (l.drop j).take 1 = [v]) : l[j]? = some v := by
  have := congrArg (fun l => l[0]?) h
  simpa [List.getElem?_take, List.getElem?_drop] using this
/-- what is so at each index is so of a function -/
theorem each_fun {α : Type} [Inhabited α] {n : Nat} {p : Nat → α → Prop} (h : ∀ i, i < n → ∃ x, p i x) : ∃ f : Nat → α, ∀ i, i < n → p i (f i) :=
  ⟨fun i => if h' : i < n then Classical.choose (h i h') else default, fun i hi => by
    dsimp only
    rw [dif_pos hi]
    exact Classical.choose_spec (h i hi)⟩
theorem cellsA_all {w : World} {g : Nat} : ∀ (l : List Ad) (o : Nat), (∀ j a, l[j]? = some a → w.rangeAt g (o + j * 17) a.c) → ∀ i u, (cellsA l)[i]? = some u → w.cell? ⟨g, o + i, none⟩ = some u
  | [], _, _, i, u, h => by simp [cellsA] at h
  | a :: l, o, hr, i, u, h => by
    rw [cellsA_cons, List.getElem?_append] at h
    split at h
    · have := hr 0 a rfl i u h
      rwa [Nat.zero_mul, Nat.add_zero] at this
    · rename_i hi
      have hl := a.c_len
      have := cellsA_all l (o + 17) (fun j q hj => by
        have := hr (j + 1) q (by simpa using hj)
        rwa [show o + 17 + j * 17 = o + (j + 1) * 17 by omega]) (i - a.c.length) u h
      rwa [hl, show o + 17 + (i - 17) = o + i by omega] at this
section
variable {H : Type} {enc : TypeId × Value → H} {w : World} {fuel : Nat} {x : DataW H × List MemPlace}
theorem addr_open {cs : List Value} (h : DataW.trod enc Tryz.prog w 0 (fun _ => true) true fuel 36 cs = some x) : ∃ a : Ad, cs = a.c := by
  obtain ⟨xs, k, _, _, hl, hxl, hg⟩ := DataW.trod_struct Tryz.underlying36 h
  rw [show Tryz.prog.cellsOf 36 = 17 from by kernel_rfl] at hl
  match xs, hxl with
  | [y0, y1], _ =>
    have g0 : DataW.trod enc Tryz.prog w 0 (fun _ => true) true k 4 (List.take (Tryz.prog.cellsOf 4) (List.drop 0 cs)) = [y0, y1][0]? := hg 0 _ rfl
    have g1 : DataW.trod enc Tryz.prog w 0 (fun _ => true) true k 34 (List.take (Tryz.prog.cellsOf 34) (List.drop 1 cs)) = [y0, y1][1]? := hg 1 _ rfl
    rw [show Tryz.prog.cellsOf 4 = 1 from by kernel_rfl] at g0
    rw [show Tryz.prog.cellsOf 34 = 16 from by kernel_rfl] at g1
    obtain ⟨b0, hb0, _⟩ := DataW.trod_bool Tryz.underlying4 (x := y0) g0
    obtain ⟨zs, m, _, _, _, hzl, hz⟩ := DataW.trod_array Tryz.underlying34 (x := y1) g1
    obtain ⟨f, hf⟩ := each_fun (n := 16) (p := fun i z => cs[1 + i]? = some (.int .u8 z) ∧ 0 ≤ z ∧ z < 256) fun i hi => by
      have h1 := hz i hi
      rw [show Tryz.prog.cellsOf 5 = 1 from by kernel_rfl] at h1
      have : zs[i]? = some (zs[i]'(by omega)) := by simp [show i < zs.length by omega]
      rw [this] at h1
      obtain ⟨z, hz2, _, hwf⟩ := DataW.trod_int Tryz.underlying5 h1
      have h3 := take_1 hz2
      rw [Nat.mul_one, List.getElem?_take, if_pos hi, List.getElem?_drop] at h3
      exact ⟨z, h3, by simp [Lit.wf, IntKind.min, IntKind.max, IntKind.signed, IntKind.bits] at hwf; omega⟩
    refine ⟨⟨b0, (List.range 16).map f, by simp, fun q hq => ?_⟩, ?_⟩
    · obtain ⟨i, hi, rfl⟩ := List.mem_map.1 hq
      exact (hf i (List.mem_range.1 hi)).2
    · unfold Ad.c
      apply List.ext_getElem?
      intro i
      have h0 := take_1 (j := 0) hb0
      rcases Nat.lt_or_ge i 17 with hi | hi
      · cases i with
        | zero => rw [h0]; rfl
        | succ i =>
          have := (hf i (by omega)).1
          rw [Nat.add_comm] at this
          rw [this]
          simp [adrC, show i < 16 by omega]
      · rw [List.getElem?_eq_none (by omega), List.getElem?_eq_none (by simp [adrC]; omega)]
theorem open_adrs {v : Value} (h : DataW.trod enc Tryz.prog w 0 (fun _ => true) true fuel 24 [v] = some x) : ∃ l : List Ad, RdA w v l := by
  rcases Go.Deep.open_slice Tryz.underlying24 h with ⟨hcs, hx⟩ | ⟨a, len, cap, m, n, D, Pl, hcs, _, hl, hm, hmm, hx, hall⟩
  · obtain rfl : v = .slice none 0 0 := by simpa using hcs
    exact ⟨[], none, 0, rfl, Nat.le_refl _, by unfold maxLen; omega, fun h => absurd h (by simp)⟩
  · obtain rfl : v = .slice (some a) len cap := by simpa using hcs
    have hmc : m = cap := by rw [hmm]; simp
    haveI : Inhabited Ad := ⟨⟨false, List.replicate 16 0, by rfl, fun x hx => by rw [List.eq_of_mem_replicate hx]; omega⟩⟩
    obtain ⟨f, hf⟩ := each_fun (n := len) (p := fun i (z : Ad) => ∀ j u, z.c[j]? = some u → w.cell? (a.add (i * 17 + j)) = some u) fun i hi => by
      obtain ⟨cs', h1, h2⟩ := hall i (by omega)
      rw [show Tryz.prog.cellsOf 36 = 17 from by kernel_rfl] at h1
      obtain ⟨_, hlen, hcell⟩ := World.cells?_some h1
      obtain ⟨r, rfl⟩ := addr_open h2
      refine ⟨r, fun j y hy => ?_⟩
      have hj : j < r.c.length := (List.getElem?_eq_some_iff.1 hy).1
      have c0 := hcell j (by omega)
      rw [Go.Deep.add_add] at c0
      rw [c0]
      exact hy
    have hlz : ((List.range len).map f).length = len := by simp
    refine ⟨(List.range len).map f, some a, cap, by rw [hlz], by rw [hlz]; exact hl, hm, fun h0 => ?_⟩
    rw [hlz] at h0
    have hc0 := hf 0 h0 0 _ (show (f 0).c[0]? = some (.bool (f 0).v) from rfl)
    obtain ⟨g, o, e⟩ := plain_at hc0
    have ha : a = ⟨g, o, none⟩ := by
      obtain ⟨g', o', sp⟩ := a
      cases sp with
      | none => unfold Addr.add at e; simp at e; rw [e.1, e.2]
      | some y => unfold Addr.add at e; simp at e
    subst ha
    refine ⟨g, o, rfl, cellsA_all _ o fun j r hj i u hu => ?_⟩
    have hjl : j < len := by
      have := (List.getElem?_eq_some_iff.1 hj).1
      rwa [hlz] at this
    obtain rfl : f j = r := by simpa [hjl] using hj
    have := hf j hjl i u hu
    rw [addr_add] at this
    rw [Nat.add_assoc]
    exact this
theorem take1_of {cs : List Value} {j : Nat} (h : j < cs.length) : (cs.drop j).take 1 = [cs[j]] := by
  rw [List.drop_eq_getElem_cons h]
  rfl
theorem rec_open {cs : List Value} (h : DataW.trod enc Tryz.prog w 0 (fun _ => true) true fuel 38 cs = some x) : ∃ (k : Int) (g : Ad) (v : Value) (l : List Ad), cs = recC k g v ∧ RdA w v l := by
  obtain ⟨xs, k, _, _, hl, hxl, hg⟩ := DataW.trod_struct Tryz.underlying38 h
  rw [show Tryz.prog.cellsOf 38 = 19 from by kernel_rfl] at hl
  match xs, hxl with
  | [y0, y1, y2], _ =>
    have g0 : DataW.trod enc Tryz.prog w 0 (fun _ => true) true k 3 (List.take (Tryz.prog.cellsOf 3) (List.drop 0 cs)) = [y0, y1, y2][0]? := hg 0 _ rfl
    have g1 : DataW.trod enc Tryz.prog w 0 (fun _ => true) true k 36 (List.take (Tryz.prog.cellsOf 36) (List.drop 1 cs)) = [y0, y1, y2][1]? := hg 1 _ rfl
    have g2 : DataW.trod enc Tryz.prog w 0 (fun _ => true) true k 24 (List.take (Tryz.prog.cellsOf 24) (List.drop 18 cs)) = [y0, y1, y2][2]? := hg 2 _ rfl
    rw [show Tryz.prog.cellsOf 3 = 1 from by kernel_rfl] at g0
    rw [show Tryz.prog.cellsOf 36 = 17 from by kernel_rfl] at g1
    rw [show Tryz.prog.cellsOf 24 = 1 from by kernel_rfl] at g2
    obtain ⟨a, ha, _⟩ := DataW.trod_int Tryz.underlying3 (x := y0) g0
    obtain ⟨b, hb⟩ := addr_open (x := y1) g1
    rw [take1_of (show 18 < cs.length by omega)] at g2
    obtain ⟨l, hrd⟩ := open_adrs (x := y2) g2
    refine ⟨a, b, cs[18], l, ?_, hrd⟩
    have h1 : cs = cs.take 1 ++ cs.drop 1 := (List.take_append_drop 1 cs).symm
    have h2 : cs.drop 1 = (cs.drop 1).take 17 ++ (cs.drop 1).drop 17 := (List.take_append_drop 17 _).symm
    rw [List.drop_drop] at h2
    have h3 : cs.drop 18 = [cs[18]] := by rw [← take1_of (show 18 < cs.length by omega), List.take_of_length_le (by rw [List.length_drop]; omega)]
    have ha' : cs.take 1 = [.int .i64 a] := by simpa using ha
    conv => lhs; rw [h1, h2, ha', hb]
    rw [show 1 + 17 = 18 from rfl, h3]
    rfl
theorem act_open {cs : List Value} (h : DataW.trod enc Tryz.prog w 0 (fun _ => true) true fuel 46 cs = some x) : ∃ (q : GA) (v : Value), cs = q.c v ∧ RdA w v q.src := by
  obtain ⟨xs, k, _, _, hl, hxl, hg⟩ := DataW.trod_struct Tryz.underlying46 h
  rw [show Tryz.prog.cellsOf 46 = 23 from by kernel_rfl] at hl
  match xs, hxl with
  | [y0, y1, y2, y3, y4], _ =>
    have g0 : DataW.trod enc Tryz.prog w 0 (fun _ => true) true k 3 (List.take (Tryz.prog.cellsOf 3) (List.drop 0 cs)) = [y0, y1, y2, y3, y4][0]? := hg 0 _ rfl
    have g1 : DataW.trod enc Tryz.prog w 0 (fun _ => true) true k 3 (List.take (Tryz.prog.cellsOf 3) (List.drop 1 cs)) = [y0, y1, y2, y3, y4][1]? := hg 1 _ rfl
    have g2 : DataW.trod enc Tryz.prog w 0 (fun _ => true) true k 3 (List.take (Tryz.prog.cellsOf 3) (List.drop 2 cs)) = [y0, y1, y2, y3, y4][2]? := hg 2 _ rfl
    have g3 : DataW.trod enc Tryz.prog w 0 (fun _ => true) true k 38 (List.take (Tryz.prog.cellsOf 38) (List.drop 3 cs)) = [y0, y1, y2, y3, y4][3]? := hg 3 _ rfl
    have g4 : DataW.trod enc Tryz.prog w 0 (fun _ => true) true k 4 (List.take (Tryz.prog.cellsOf 4) (List.drop 22 cs)) = [y0, y1, y2, y3, y4][4]? := hg 4 _ rfl
    rw [show Tryz.prog.cellsOf 3 = 1 from by kernel_rfl] at g0 g1 g2
    rw [show Tryz.prog.cellsOf 38 = 19 from by kernel_rfl] at g3
    rw [show Tryz.prog.cellsOf 4 = 1 from by kernel_rfl] at g4
    obtain ⟨a0, h0, _⟩ := DataW.trod_int Tryz.underlying3 (x := y0) g0
    obtain ⟨a1, h1, _⟩ := DataW.trod_int Tryz.underlying3 (x := y1) g1
    obtain ⟨a2, h2, _⟩ := DataW.trod_int Tryz.underlying3 (x := y2) g2
    obtain ⟨rk, g, v, l, h3, hrd⟩ := rec_open (x := y3) g3
    obtain ⟨b4, h4, _⟩ := DataW.trod_bool Tryz.underlying4 (x := y4) g4
    refine ⟨⟨a0, a1, a2, rk, g, l, b4⟩, v, ?_, hrd⟩
    have e0 : cs = cs.take 1 ++ cs.drop 1 := (List.take_append_drop 1 cs).symm
    have e1 : cs.drop 1 = (cs.drop 1).take 1 ++ cs.drop 2 := by rw [show cs.drop 2 = (cs.drop 1).drop 1 by rw [List.drop_drop], List.take_append_drop]
    have e2 : cs.drop 2 = (cs.drop 2).take 1 ++ cs.drop 3 := by rw [show cs.drop 3 = (cs.drop 2).drop 1 by rw [List.drop_drop], List.take_append_drop]
    have e3 : cs.drop 3 = (cs.drop 3).take 19 ++ cs.drop 22 := by rw [show cs.drop 22 = (cs.drop 3).drop 19 by rw [List.drop_drop], List.take_append_drop]
    have e4 : cs.drop 22 = (cs.drop 22).take 1 := (List.take_of_length_le (by rw [List.length_drop]; omega)).symm
    have h0' : cs.take 1 = [.int .i64 a0] := by simpa using h0
    conv => lhs; rw [e0, e1, e2, e3, e4, h0', h1, h2, h3, h4]
    rfl
theorem open_acts {v : Value} (h : DataW.trod enc Tryz.prog w 0 (fun _ => true) true fuel 43 [v] = some x) : ∃ xs sv, ActsAt w v xs sv := by
  rcases Go.Deep.open_slice Tryz.underlying43 h with ⟨hcs, hx⟩ | ⟨a, len, cap, m, n, D, Pl, hcs, _, hl, hm, hmm, hx, hall⟩
  · obtain rfl : v = .slice none 0 0 := by simpa using hcs
    exact ⟨[], fun _ => .slice none 0 0, ⟨none, 0, rfl, Nat.le_refl _, by unfold maxLen; omega, fun h => absurd h (by simp)⟩, fun i x hx => (by simp at hx)⟩
  · obtain rfl : v = .slice (some a) len cap := by simpa using hcs
    have hmc : m = cap := by rw [hmm]; simp
    haveI : Inhabited (GA × Value) := ⟨(⟨0, 0, 0, 0, ⟨false, List.replicate 16 0, by rfl, fun x hx => by rw [List.eq_of_mem_replicate hx]; omega⟩, [], false⟩, undef)⟩
    obtain ⟨f, hf⟩ := each_fun (n := len) (p := fun i (z : GA × Value) => (∀ j u, (z.1.c z.2)[j]? = some u → w.cell? (a.add (i * 23 + j)) = some u) ∧ RdA w z.2 z.1.src) fun i hi => by
      obtain ⟨cs', h1, h2⟩ := hall i (by omega)
      rw [show Tryz.prog.cellsOf 46 = 23 from by kernel_rfl] at h1
      obtain ⟨_, hlen, hcell⟩ := World.cells?_some h1
      obtain ⟨r, u, rfl, hrd⟩ := act_open h2
      refine ⟨(r, u), fun j y hy => ?_, hrd⟩
      have hj : j < (r.c u).length := (List.getElem?_eq_some_iff.1 hy).1
      have c0 := hcell j (by omega)
      rw [Go.Deep.add_add] at c0
      rw [c0]
      exact hy
    have hlz : ((List.range len).map fun i => (f i).1).length = len := by simp
    have hget : ∀ j r, ((List.range len).map fun i => (f i).1)[j]? = some r → j < len ∧ r = (f j).1 := fun j r hj => by
      have hjl := (List.getElem?_eq_some_iff.1 hj).1
      rw [hlz] at hjl
      simp [hjl] at hj
      exact ⟨hjl, hj.symm⟩
    refine ⟨(List.range len).map fun i => (f i).1, fun i => (f i).2, ⟨some a, cap, by rw [hlz], by rw [hlz]; exact hl, hm, fun h0 => ?_⟩, fun j r hj => by
      obtain ⟨h1, rfl⟩ := hget j r hj
      exact (hf j h1).2⟩
    rw [hlz] at h0
    have hc0 := (hf 0 h0).1 0 _ (show ((f 0).1.c (f 0).2)[0]? = some (.int .i64 (f 0).1.kind) from rfl)
    obtain ⟨g, o, e⟩ := plain_at hc0
    have ha : a = ⟨g, o, none⟩ := by
      obtain ⟨g', o', sp⟩ := a
      cases sp with
      | none => unfold Addr.add at e; simp at e; rw [e.1, e.2]
      | some y => unfold Addr.add at e; simp at e
    subst ha
    refine ⟨g, o, rfl, fun j r hj i u hu => ?_⟩
    obtain ⟨h1, rfl⟩ := hget j r hj
    have := (hf j h1).1 i u hu
    rw [addr_add] at this
    rw [Nat.add_assoc]
    exact this
end
theorem open_actsV {H : Type} {enc : TypeId × Value → H} {w : World} {base : Nat} {v : Value} {d : DataW H} {p : List MemPlace} (hk : Value.okWide Tryz.prog w .any base 43 v) (h : DataW.Trod enc Tryz.prog w 0 (fun _ => true) true 43 v d p) :
    ∃ xs sv, ActsAt w v xs sv := by
  obtain ⟨a0, len, cap, rfl⟩ := okWide_slice Tryz.underlying43 hk
  obtain ⟨fuel, hf⟩ := h
  exact open_acts (by simpa [Value.cells] using hf)
/-- a tune that the caller hands in -/
theorem open_tune {H : Type} {enc : TypeId × Value → H} {w : World} {base : Nat} {v : Value} {d : DataW H} {p : List MemPlace} (hk : Value.okWide Tryz.prog w .any base 32 v) (h : DataW.Trod enc Tryz.prog w 0 (fun _ => true) true 32 v d p) :
    ∃ t : Tn, v = .agg t.c.toArray := by
  obtain ⟨cs, rfl, hl0, ho0⟩ := R.ok_agg Tryz.underlying32 rfl hk
  obtain ⟨fuel, hf⟩ := h
  have h' : DataW.trod enc Tryz.prog w 0 (fun _ => true) true fuel 32 cs = some (d, p) := hf
  obtain ⟨xs, k, _, _, hl, hxl, hg⟩ := DataW.trod_struct Tryz.underlying32 h'
  rw [show Tryz.prog.cellsOf 32 = 5 from by kernel_rfl] at hl
  match xs, hxl with
  | [y0, y1, y2, y3, y4], _ =>
    have g0 : DataW.trod enc Tryz.prog w 0 (fun _ => true) true k 3 (List.take (Tryz.prog.cellsOf 3) (List.drop 0 cs)) = [y0, y1, y2, y3, y4][0]? := hg 0 _ rfl
    have g1 : DataW.trod enc Tryz.prog w 0 (fun _ => true) true k 3 (List.take (Tryz.prog.cellsOf 3) (List.drop 1 cs)) = [y0, y1, y2, y3, y4][1]? := hg 1 _ rfl
    have g2 : DataW.trod enc Tryz.prog w 0 (fun _ => true) true k 3 (List.take (Tryz.prog.cellsOf 3) (List.drop 2 cs)) = [y0, y1, y2, y3, y4][2]? := hg 2 _ rfl
    have g3 : DataW.trod enc Tryz.prog w 0 (fun _ => true) true k 3 (List.take (Tryz.prog.cellsOf 3) (List.drop 3 cs)) = [y0, y1, y2, y3, y4][3]? := hg 3 _ rfl
    have g4 : DataW.trod enc Tryz.prog w 0 (fun _ => true) true k 3 (List.take (Tryz.prog.cellsOf 3) (List.drop 4 cs)) = [y0, y1, y2, y3, y4][4]? := hg 4 _ rfl
    rw [show Tryz.prog.cellsOf 3 = 1 from by kernel_rfl] at g0 g1 g2 g3 g4
    obtain ⟨a0, h0, _⟩ := DataW.trod_int Tryz.underlying3 (x := y0) g0
    obtain ⟨a1, h1, _⟩ := DataW.trod_int Tryz.underlying3 (x := y1) g1
    obtain ⟨a2, h2, _⟩ := DataW.trod_int Tryz.underlying3 (x := y2) g2
    obtain ⟨a3, h3, _⟩ := DataW.trod_int Tryz.underlying3 (x := y3) g3
    obtain ⟨a4, h4, _⟩ := DataW.trod_int Tryz.underlying3 (x := y4) g4
    refine ⟨⟨a0, a1, a2, a3, a4⟩, ?_⟩
    have e : cs = [.int .i64 a0, .int .i64 a1, .int .i64 a2, .int .i64 a3, .int .i64 a4] := by
      have j0 := take_1 h0
      have j1 := take_1 h1
      have j2 := take_1 h2
      have j3 := take_1 h3
      have j4 := take_1 h4
      apply List.ext_getElem?
      intro i
      match i with
      | 0 => rw [j0]; rfl
      | 1 => rw [j1]; rfl
      | 2 => rw [j2]; rfl
      | 3 => rw [j3]; rfl
      | 4 => rw [j4]; rfl
      | i + 5 => rw [List.getElem?_eq_none (by omega), List.getElem?_eq_none (by simp)]
    rw [e]
    rfl
end Go.Proofs.YtcccdlmngddalaaGreat
namespace Go.Proofs.YtcccdlmngddalaaGreat
open Go.RowKit Go.Sort
set_option linter.unusedVariables false
set_option linter.unusedSimpArgs false
theorem settle_len {G : Gs} (h : GOk G) (now : Int) : (settleG G now).on.length ≤ 400 ∧ (settleG G now).off.length ≤ 400 := by
  have := (h.settle now).len
  omega
section
variable {N : Nat} (SO : SortOk N) {w : World} {p c b : Nat} {G : Gs} (h : GAt w p c b G) (ok : GOk G) (now : Int) (hN : ∀ L : List (Ad × Int), (∀ a1 n1 k1 a2 n2 k2, GIn w p c b G a1 n1 k1 a2 n2 k2 L → (dueL (nowG G now) L).length ≤ N))
include SO h ok hN
set_option maxRecDepth 100000 in
set_option maxHeartbeats 1000000 in
theorem gState : Calls Tryz.prog 12 #[.pointer (some ⟨p, 0, none⟩), .int .i64 now] w fun e w' => ∃ a1 n1 k1 a2 n2 k2, e = .returned (.agg #[.bool (settleG G now).ex, .slice a1 n1 k1, .slice a2 n2 k2]) ∧ RT w' (.slice a1 n1 k1) (settleG G now).on ∧ RT w' (.slice a2 n2 k2) (settleG G now).off ∧ GAt w' p c b (settleG G now) ∧ Mod (fun k => k = p ∨ k = b) w w' := by
  obtain ⟨a1, n1, k1, a2, n2, k2, L, h⟩ := h
  have hn := hN L _ _ _ _ _ _ h
  have hm0 : Mod (fun _ => False) w (w.alloc (.cells #[.bool false, .slice none 0 0, .slice none 0 0] 26 (0, 0))) := (Mod.refl _ _).alloc _
  have H0 := Lib.hid (h.keep0 hm0)
  have HB0 := Lib.hid (Blk.new w 26 [.bool false, .slice none 0 0, .slice none 0 0])
  have HM0 : Hid (Mod (fun k => k = p ∨ k = b) w (w.alloc (.cells #[.bool false, .slice none 0 0, .slice none 0 0] 26 (0, 0)))) := Lib.hid ((Mod.refl _ _).alloc _)
  have OK := Lib.hid ok
  have HSO := Lib.hid SO
  have HN := Lib.hid hn
  have hpl := h.blk.lt
  have hbl := h.clk.mp.lt
  have hsl := settle_len ok now
  clear h hN ok SO hn hm0
  obtain ⟨G1, hG1⟩ : ∃ G1, G1 = settleG G now := ⟨_, rfl⟩
  have HG1 := Lib.hid hG1
  rw [← hG1] at hsl ⊢
  clear hG1
  go_enter Tryz.func12, Tryz.ntmps12
  go_wp2_with fail
  refine (gsettle HSO.out H0.out OK.out now HN.out).mono ?_
  rw [← HG1.out]
  rintro e W1 ⟨rfl, ⟨b1, m1, d1, b2, m2, d2, L1, hg1⟩, hm1⟩
  have HI1 := Lib.hid hg1
  have HB1 := Lib.hid (HB0.out.keep hm1 fun e => by omega)
  have HM1 : Hid (Mod (fun k => k = p ∨ k = b) w W1) := Lib.hid (HM0.out.trans hm1 fun k hk => .inl hk)
  clear hg1 hm1 H0 HB0 HM0
  go_wp2_with (first
    | (refine wpList_load_blk rfl _ _ rfl p 2 rfl 90 _ [.bool G1.ex, .slice b1 m1 d1, .slice b2 m2 d2] _ HI1.out.blk rfl Tryz.underlying26 rfl stSz ?_)
    | (go_at_call 45; refine (gown_s G1.ex HI1.out.on HI1.out.off (by omega) (by omega)).mono ?_; rintro e W2 ⟨f1, g1, i1, f2, g2, i2, rfl, q1, q2, qm⟩; have Q1 := Lib.hid q1; have Q2 := Lib.hid q2; have HI2 := Lib.hid (HI1.out.keep0 qm); have HB2 := Lib.hid (HB1.out.keep qm fun f => f); have HM2 : Hid (Mod (fun k => k = p ∨ k = b) w W2) := Lib.hid (HM1.out.trans qm fun _ f => f.elim); clear q1 q2 qm)
    | (refine wpList_store_blk rfl _ _ _ rfl w.heap.size 0 26 _ [.bool G1.ex, .slice f1 g1 i1, .slice f2 g2 i2] rfl rfl HB2.out (by simp) stSz (by simp [Value.oneCell']) ?_; intro W3 HX3 HY3))
  refine bodyPost_ret (results_blk rfl _ w.heap.size 26 [.bool G1.ex, .slice f1 g1 i1, .slice f2 g2 i2] rfl (splice_all HX3.out rfl) Tryz.underlying26 rfl stSz) rfl ?_
  have HNA := Lib.hid (HB2.out.notA (by decide))
  refine ⟨f1, g1, i1, f2, g2, i2, rfl, Q1.out.keepT HY3.out HNA.out, Q2.out.keepT HY3.out HNA.out, ⟨b1, m1, d1, b2, m2, d2, L1, ?_⟩, HM2.out.trans HY3.out fun q hq => .inr (by omega)⟩
  exact ⟨HI2.out.blk.keep HY3.out fun e => by omega, HI2.out.on.keepT HY3.out HNA.out, HI2.out.off.keepT HY3.out HNA.out, HI2.out.clk.keep HY3.out (fun e => by have h1 := HI2.out.clk.blk.neT HB2.out (by decide); exact h1 e) fun e => by omega⟩
set_option maxRecDepth 100000 in
set_option maxHeartbeats 1000000 in
theorem gLeft : Calls Tryz.prog 22 #[.pointer (some ⟨p, 0, none⟩), .int .i64 now] w fun e w' => e = .returned (.int .i64 (if (settleG G now).ex then (settleG G now).till - (settleG G now).now else 0)) ∧ GAt w' p c b (settleG G now) ∧ Mod (fun k => k = p ∨ k = b) w w' := by
  obtain ⟨a1, n1, k1, a2, n2, k2, L, h⟩ := h
  have hn := hN L _ _ _ _ _ _ h
  have HH := Lib.hid h
  have OK := Lib.hid ok
  have HSO := Lib.hid SO
  have HN := Lib.hid hn
  have OK1 := ok.settle now
  clear h hN ok SO hn
  obtain ⟨G1, hG1⟩ : ∃ G1, G1 = settleG G now := ⟨_, rfl⟩
  have HG1 := Lib.hid hG1
  rw [← hG1] at OK1 ⊢
  clear hG1
  go_enter Tryz.func22, Tryz.ntmps22
  go_wp2_with fail
  refine (gsettle HSO.out HH.out OK.out now HN.out).mono ?_
  rw [← HG1.out]
  have ew : IntKind.i64.wrap (G1.till - G1.now) = G1.till - G1.now := IntWalk.i64_in _ (by have h1 := OK1.till; have h2 := OK1.now0; have h3 := OK1.now1; omega)
  rintro e W1 ⟨rfl, ⟨b1, m1, d1, b2, m2, d2, L1, hg1⟩, hm1⟩
  have HI1 := Lib.hid hg1
  have HM1 := Lib.hid hm1
  have x2 : W1.cell? ⟨p, 2, none⟩ = some (.bool G1.ex) := HI1.out.blk.cell rfl
  clear hg1 hm1 OK1
  cases hex : G1.ex with
  | false =>
    rw [hex] at x2
    go_wp2
    all_goals
      go_ret
      exact ⟨rfl, ⟨_, _, _, _, _, _, _, HI1.out⟩, HM1.out⟩
  | true =>
    rw [hex] at x2
    go_wp2_with fail
    have hS : W1.drew.cell? ⟨p, 5, none⟩ = some (.int .i64 G1.till) ∧ W1.drew.cell? ⟨p, 1, none⟩ = some (.int .i64 G1.now) := ⟨HI1.out.blk.cell rfl, HI1.out.blk.cell rfl⟩
    refine wp_region_plan [] [(0, 0), (1, 0), (2, 0), (3, 1), (4, 0), (5, 0), (6, 0), (7, 1), (8, 0), (9, 0)] (fun w' : World => w'.cell? ⟨p, 5, none⟩ = some (.int .i64 G1.till) ∧ w'.cell? ⟨p, 1, none⟩ = some (.int .i64 G1.now)) (by kernel_rfl) (by kernel_rfl) (fun d v c a w h => by first | (cases d <;> exact h) | exact HP d v c a w h) ?_
    repeat ((first | refine plan_skip rfl rfl ?_ | refine plan_pass2 rfl rfl ?_ | refine plan_pass3 rfl rfl ?_ | (refine plan_take (v := ?_) rfl rfl ?_ ?_; rotate_left; focus (intro w0; go_simp; try with_reducible rfl)) | (refine plan_held (v := ?_) rfl rfl hS ?_ ?_; rotate_left; focus (intro w0 hSw; (try dsimp only at hSw); go_split_ands; go_simp; try with_reducible rfl)) | refine plan_skip1 rfl rfl hS ?_); simp only [List.getElem_toArray, List.getElem_cons_succ, List.getElem_cons_zero, Act.put, List.setIfInBounds_toArray, List.set_cons_zero, List.set_cons_succ])
    refine plan_nil ?_
    go_wp2
    go_ret
    exact ⟨by simp, ⟨_, _, _, _, _, _, _, HI1.out.keep0 (Mod.refl _ W1).drew⟩, HM1.out.drew⟩
end
/-- the law's tune -/
def uT : Tn := ⟨2, 12, 2, 2, 2⟩
theorem uT_ok : uT.ok := by unfold Tn.ok uT; simp
set_option maxRecDepth 100000 in
theorem usual_any (w : World) : Calls Tryz.prog 10 #[] w fun e w' => e = .returned (.agg uT.c.toArray) ∧ Mod (fun _ => False) w w' := by
  have HB := Lib.hid (Blk.new w 32 [.int .i64 0, .int .i64 0, .int .i64 0, .int .i64 0, .int .i64 0])
  go_enter Tryz.func10, Tryz.ntmps10
  go_wp2_with (refine wpList_store_blk rfl _ _ _ rfl w.heap.size 0 32 _ uT.c rfl rfl HB.out (by simp [Tn.c]) tuSz (by simp [Tn.c, Value.oneCell']) ?_; intro W1 HX1 HY1)
  refine bodyPost_ret (results_blk rfl _ w.heap.size 32 uT.c rfl (splice_all HX1.out rfl) Tryz.underlying32 rfl tuSz) rfl ?_
  exact ⟨rfl, ((Mod.refl _ _).alloc _).trans HY1.out fun q hq => .inr (by omega)⟩
/-- the law's sources -/
def many1 (base i : Nat) : Ad := ⟨false, [10, 0, 0, ((base + i : Nat) : Int) % 256, 0, 0, 0, 0, 0, 0, 0, 0, 0, 0, 0, 0], rfl, fun x hx => by simp at hx; omega⟩
def manyL (n base : Nat) : List Ad := (List.range n).map (many1 base)
theorem manyL_len (n base : Nat) : (manyL n base).length = n := by simp [manyL]
set_option maxRecDepth 100000 in
set_option maxHeartbeats 1000000 in
theorem many_any (n base : Nat) (hn : n ≤ 40) (hb : base ≤ 100) (w : World) : Calls Tryz.prog 11 #[.int .i64 (n : Int), .int .i64 (base : Int)] w fun e w' => ∃ a1 n1 k1, e = .returned (.slice a1 n1 k1) ∧ RowA w' (fun q => w.heap.size ≤ q) (.slice a1 n1 k1) (manyL n base) ∧ Mod (fun _ => False) w w' := by
  have HN := Lib.hid hn
  have HBA := Lib.hid hb
  clear hb
  go_enter Tryz.func11, Tryz.ntmps11
  go_wp2_with fail
  go_loopw [5, 6] (fun v5 iv wr => ∃ j : Nat, j ≤ n ∧ iv = .int .i64 (j : Int) ∧ RowA wr (fun q => w.heap.size ≤ q) v5 (manyL j base) ∧ Mod (fun _ => False) w wr) (fun _ iv _ => n - (intOf iv).toNat)
  case atStart => exact ⟨0, Nat.zero_le _, rfl, Row.empty w _ 17, (Mod.refl _ _).alloc _⟩
  case round =>
    obtain ⟨j, hj, rfl, hrow, hmw⟩ := hrel
    obtain ⟨a5, n5, c5, rfl⟩ := hrow.sl
    have HROW := Lib.hid hrow
    have HMW := Lib.hid hmw
    clear hrow hmw
    by_cases hlt : j < n
    · obtain ⟨x, hx⟩ : ∃ x, x = many1 base j := ⟨_, rfl⟩
      obtain ⟨y, hy⟩ : ∃ y : Int, y = (base : Int) + (j : Int) := ⟨_, rfl⟩
      have hy0 : 0 ≤ y ∧ y < 256 := by have := HN.out; have := HBA.out; omega
      have xc : x.c = [.bool false, .int .u8 10, .int .u8 0, .int .u8 0, .int .u8 y, .int .u8 0, .int .u8 0, .int .u8 0, .int .u8 0, .int .u8 0, .int .u8 0, .int .u8 0, .int .u8 0, .int .u8 0, .int .u8 0, .int .u8 0, .int .u8 0] := by
        rw [hx]
        show adrC false [10, 0, 0, ((base + j : Nat) : Int) % 256, 0, 0, 0, 0, 0, 0, 0, 0, 0, 0, 0, 0] = _
        rw [show ((base + j : Nat) : Int) % 256 = y by omega]
        rfl
      have HXC := Lib.hid xc
      have HSN : Hid (manyL (j + 1) base = manyL j base ++ [x]) := Lib.hid (by unfold manyL; rw [List.range_succ, List.map_append, hx]; rfl)
      have HXL := Lib.hid x.c_len
      have HX1 := Lib.hid x.c_one
      have e0 : IntKind.i64.wrap ((base : Int) + (j : Int)) = y := by rw [← hy]; exact IntWalk.i64_in _ (by omega)
      have e1 : IntKind.u8.wrap y = y := by show y % 256 = y; omega
      have e2 : y.tdiv 256 = 0 := Int.tdiv_eq_zero_of_lt hy0.1 hy0.2
      obtain ⟨lj, hlj⟩ : ∃ lj, lj = manyL j base := ⟨_, rfl⟩
      rw [← hlj] at HROW HSN
      have HLK : Hid (lj.length ≤ 40) := Lib.hid (by rw [hlj, manyL_len]; have := HN.out; omega)
      have HHY := Lib.hid hy
      clear xc hx hlj hy
      go_wp2_with (first
        | (refine wpList_buildSlice1 Tryz.elA rfl _ rfl x.c (by rw [HXC.out]; rfl) HXL.out (by decide) (by decide) ?_)
        | (at_builtin; refine wpList_append_one Tryz.elA rfl (.tmp 13) (.tmp 25) rfl x.c.toArray (fun q => w.heap.size ≤ q) (.slice a5 n5 c5) lj.length (cellsA lj) (HROW.out.alloc _) _ (allocNew wr _) rfl rfl (by simpa using HXL.out) (by simpa using HX1.out) (by have := HLK.out; omega) (by have := HLK.out; unfold maxLen; omega) ?_; intro v9 w9 h9 h9m; have H9 := Lib.hid h9; have H9M := Lib.hid h9m; clear h9 h9m))
      go_roundw
      case rel =>
        refine ⟨j + 1, by omega, by go_num, ?_, (HMW.out.alloc _).trans H9M.out fun q hq => .inr (HROW.out.2 q hq)⟩
        rw [HSN.out]
        unfold RowA
        rw [cellsA_app, show cellsA [x] = x.c by simp [cellsA], List.length_append]
        have hsz := HMW.out.size
        exact H9.out.mono fun q hq => hq.elim (fun h => h) fun h => by simp at h; omega
      case measure => simp [intOf]; omega
    · obtain rfl : j = n := by omega
      go_wp2
      go_ret
      exact ⟨_, _, _, rfl, HROW.out, HMW.out⟩
end Go.Proofs.YtcccdlmngddalaaGreat
namespace Go.Proofs.YtcccdlmngddalaaGreat
open Go.RowKit Go.Sort
set_option linter.unusedVariables false
set_option linter.unusedSimpArgs false
/-- a group of whom something was heard at n last: whatever it holds runs out a membership later -/
structure EG (G : Gs) (M n : Int) : Prop where
  now : G.now = n
  n0 : 0 ≤ n
  on : AS G.on
  off : AS G.off
  dis : ∀ a ∈ G.on, a ∉ G.off
  sum : G.on.length + G.off.length ≤ 32
  dom : ∀ a, G.T a ≠ none → a ∈ G.on
  dl : ∀ a ∈ G.on, ∃ t, G.T a = some t
  tb : ∀ a t, G.T a = some t → 0 ≤ t ∧ t ≤ n + M
  till : 0 ≤ G.till ∧ G.till ≤ n + M
theorem EG.ok {G : Gs} {M n : Int} (h : EG G M n) (hM : 0 ≤ M ∧ M ≤ 3000000) (hn : n ≤ 1000000000000) : GOk G := by
  have h1 := h.n0
  have h2 := h.till
  refine ⟨h.on, h.off, by have := h.sum; omega, by rw [h.now]; exact h1, by rw [h.now]; exact hn, h.dom, fun a t ht => ?_, by omega⟩
  have := h.tb a t ht
  omega
theorem EG.due {G : Gs} {M n : Int} (h : EG G M n) {L : List (Ad × Int)} (hl : TL L G.T) (m : Int) : (dueL m L).length ≤ 32 := by
  have h1 := hl.len h.dom
  have h2 := List.length_filter_le (fun p : Ad × Int => decide (p.2 ≤ m)) L
  have h3 := h.sum
  unfold dueL
  omega
theorem EG.g0 (v6 : Bool) (M : Int) (hM : 0 ≤ M) : EG (G0 v6) M 0 := ⟨rfl, Int.le_refl _, AS.nil, AS.nil, fun a ha => (by cases ha), Nat.zero_le _, fun a h => absurd rfl h, fun a ha => (by cases ha), fun a t ht => (by cases ht), ⟨Int.le_refl _, by simpa [G0] using hM⟩⟩
theorem EG.nowE {G : Gs} {M n : Int} (h : EG G M n) {m : Int} (hm : n ≤ m) (h1 : m ≤ 1000000000000) : nowG G m = m := by
  have := h.now
  unfold nowG
  omega
theorem EG.settle {G : Gs} {M n : Int} (h : EG G M n) {m : Int} (hm : n ≤ m) (h1 : m ≤ 1000000000000) (hM : 0 ≤ M) : EG (settleG G m) M m := by
  have hw := h.nowE hm h1
  have e1 := filt_len G.on fun a => dueB G.T (nowG G m) a
  have e2 := orA_len G.off (G.on.filter fun a => dueB G.T (nowG G m) a)
  have e3 := h.sum
  have e4 := h.n0
  have has := h.on.filter fun a => dueB G.T (nowG G m) a
  refine ⟨hw, by omega, h.on.filter _, ?_, ?_, ?_, fun a ha => ?_, fun a ha => ?_, fun a t ht => ?_, ?_⟩
  · show AS (if goneG G m then [] else if G.ex then orA G.off (G.on.filter fun a => dueB G.T (nowG G m) a) else G.off)
    split
    · exact AS.nil
    · split
      · exact orA_as h.off has
      · exact h.off
  · intro a ha
    obtain ⟨h2, h3⟩ := List.mem_filter.1 (show a ∈ G.on.filter fun a => !dueB G.T (nowG G m) a from ha)
    show a ∉ (if goneG G m then [] else if G.ex then orA G.off (G.on.filter fun a => dueB G.T (nowG G m) a) else G.off)
    split
    · simp
    · split
      · rw [mem_orA h.off has]
        rintro (h4 | h4)
        · exact h.dis a h2 h4
        · have := (List.mem_filter.1 h4).2
          rw [this] at h3
          cases h3
      · exact h.dis a h2
  · show (G.on.filter fun a => !dueB G.T (nowG G m) a).length + (if goneG G m then [] else if G.ex then orA G.off (G.on.filter fun a => dueB G.T (nowG G m) a) else G.off).length ≤ 32
    split
    · simp only [List.length_nil]; omega
    · split <;> omega
  · have ha' : updn G.T (nowG G m) a ≠ none := ha
    show a ∈ G.on.filter _
    unfold updn at ha'
    cases hT : G.T a with
    | none => rw [hT] at ha'; exact absurd rfl ha'
    | some t =>
      rw [hT] at ha'
      refine List.mem_filter.2 ⟨h.dom a (by rw [hT]; simp), ?_⟩
      unfold dueB
      rw [hT]
      by_cases hle : t ≤ nowG G m
      · simp [hle] at ha'
      · simp [hle]
  · obtain ⟨h2, h3⟩ := List.mem_filter.1 (show a ∈ G.on.filter fun a => !dueB G.T (nowG G m) a from ha)
    obtain ⟨t, ht⟩ := h.dl a h2
    refine ⟨t, ?_⟩
    show updn G.T (nowG G m) a = some t
    unfold updn
    unfold dueB at h3
    rw [ht] at h3 ⊢
    simp only at h3 ⊢
    rw [if_neg]
    intro hle
    simp [hle] at h3
  · have ht' : updn G.T (nowG G m) a = some t := ht
    unfold updn at ht'
    cases hT : G.T a with
    | none => rw [hT] at ht'; cases ht'
    | some u =>
      rw [hT] at ht'
      have := h.tb a u hT
      by_cases hle : u ≤ nowG G m
      · simp [hle] at ht'
      · simp [hle] at ht'; omega
  · have := h.till
    show 0 ≤ G.till ∧ G.till ≤ m + M
    omega
theorem EG.hears {G : Gs} {M n : Int} (h : EG G M n) (K older : Int) : EG (hearsG G K older) M n := by
  obtain ⟨e1, e2, e3, e4, e5, e6, e7⟩ := hearsG_same G K older
  exact ⟨by rw [e2]; exact h.now, h.n0, by rw [e4]; exact h.on, by rw [e5]; exact h.off, by rw [e4, e5]; exact h.dis, by rw [e4, e5]; exact h.sum, by rw [e7, e4]; exact h.dom, by rw [e7, e4]; exact h.dl, by rw [e7]; exact h.tb, by rw [e6]; exact h.till⟩
theorem AS.nodup {l : List Ad} (h : AS l) : l.Nodup := h.1.imp fun {a b} hab e => by rw [e] at hab; exact Nat.lt_irrefl _ hab
/-- of what there is room for at most so many are new -/
theorem roomF_new (known : List Ad) : ∀ (l : List Ad) (left : Int), ((roomF known left l).1.filter fun a => !decide (a ∈ known)).length ≤ left.toNat
  | [], _ => by simp [roomF]
  | a :: l, left => by
    rw [roomF]
    by_cases h : a ∈ known
    · rw [if_pos h]
      simp only [List.filter_cons, h, decide_true, Bool.not_true, Bool.false_eq_true, if_false]
      exact roomF_new known l left
    · rw [if_neg h]
      by_cases h1 : left - 1 < 0
      · rw [if_pos h1]
        have := roomF_new known l (left - 1)
        simp only
        omega
      · rw [if_neg h1]
        have := roomF_new known l (left - 1)
        simp only [List.filter_cons, h, decide_false, Bool.not_false, if_true, List.length_cons]
        omega
theorem roomG_new {G : Gs} (k : Int) (l : List Ad) (hk : ¬ (k = 6 ∧ G.ex = false)) (h1 : AS G.on) (h2 : AS G.off) (h3 : G.on.length + G.off.length ≤ 32) (m : List Ad) (hm : m.Nodup) (hs : ∀ a ∈ m, a ∈ G.on ∨ a ∈ G.off ∨ a ∈ (roomG G k l).1) : m.length ≤ 32 := by
  have e1 : (roomG G k l).1 = (roomF (orA G.on G.off) (32 - (orA G.on G.off).length) ((ofA l).filter fun a => a.v == G.v6)).1 := by
    unfold roomG
    rw [if_neg hk]
  have h4 := roomF_new (orA G.on G.off) ((ofA l).filter fun a => a.v == G.v6) (32 - (orA G.on G.off).length)
  have h5 := orA_len G.on G.off
  have h6 := nd_len m (orA G.on G.off ++ ((roomF (orA G.on G.off) (32 - (orA G.on G.off).length) ((ofA l).filter fun a => a.v == G.v6)).1.filter fun a => !decide (a ∈ orA G.on G.off))) hm fun a ha => by
    rw [List.mem_append, List.mem_filter]
    by_cases hx : a ∈ orA G.on G.off
    · exact .inl hx
    · rcases hs a ha with h | h | h
      · exact absurd ((mem_orA h1 h2).2 (.inl h)) hx
      · exact absurd ((mem_orA h1 h2).2 (.inr h)) hx
      · exact .inr ⟨e1 ▸ h, by simp [hx]⟩
  rw [List.length_append] at h6
  omega
/-- what a record comes to -/
structure StE (G : Gs) (s : St) (b : List Ad) : Prop where
  on : AS s.on
  off : AS s.off
  dis : ∀ a ∈ s.on, a ∉ s.off
  sub : ∀ a, a ∈ s.on ∨ a ∈ s.off → a ∈ G.on ∨ a ∈ G.off ∨ a ∈ b
  dl : ∀ a ∈ s.on, a ∈ s.full ∨ a ∈ s.rest ∨ a ∈ G.on
theorem incl_e {G : Gs} {b : List Ad} (k : Int) (h1 : AS G.on) (hb : AS b) : StE G (incl G.on k b) b ∧ (k = 6 → (incl G.on k b).on = G.on ∧ (incl G.on k b).off = []) := by
  have m1 : ∀ a, a ∈ orA G.on b ↔ a ∈ G.on ∨ a ∈ b := fun a => mem_orA h1 hb
  have m2 : ∀ a, a ∈ andA G.on b ↔ a ∈ G.on ∧ a ∈ b := fun a => mem_andA h1 hb
  have m3 : ∀ a, a ∈ minA b G.on ↔ a ∈ b ∧ a ∉ G.on := fun a => mem_minA hb h1
  unfold incl
  split
  · refine ⟨⟨orA_as h1 hb, AS.nil, fun a _ => by simp, fun a ha => ?_, fun a ha => ?_⟩, fun e => by omega⟩
    · rcases ha with ha | ha
      · rcases (m1 a).1 ha with h | h
        · exact .inl h
        · exact .inr (.inr h)
      · cases ha
    · rcases (m1 a).1 ha with h | h
      · exact .inr (.inr h)
      · exact .inl h
  · split
    · refine ⟨⟨andA_as h1 hb, minA_as hb h1, fun a ha h => ((m3 a).1 h).2 ((m2 a).1 ha).1, fun a ha => ?_, fun a ha => .inr (.inr ((m2 a).1 ha).1)⟩, fun e => by omega⟩
      rcases ha with ha | ha
      · exact .inl ((m2 a).1 ha).1
      · exact .inr (.inr ((m3 a).1 ha).1)
    · refine ⟨⟨h1, AS.nil, fun a _ => by simp, fun a ha => ?_, fun a ha => .inr (.inr ha)⟩, fun _ => ⟨rfl, rfl⟩⟩
      rcases ha with ha | ha
      · exact .inl ha
      · cases ha
theorem excl_e {G : Gs} {b : List Ad} (k : Int) (h1 : AS G.on) (h2 : AS G.off) (hd : ∀ a ∈ G.on, a ∉ G.off) (hb : AS b) : StE G (excl G.on G.off k b) b := by
  have m1 : ∀ a, a ∈ orA G.on b ↔ a ∈ G.on ∨ a ∈ b := fun a => mem_orA h1 hb
  have m2 : ∀ a, a ∈ minA G.off b ↔ a ∈ G.off ∧ a ∉ b := fun a => mem_minA h2 hb
  have m3 : ∀ a, a ∈ minA b G.off ↔ a ∈ b ∧ a ∉ G.off := fun a => mem_minA hb h2
  have m4 : ∀ a, a ∈ andA G.off b ↔ a ∈ G.off ∧ a ∈ b := fun a => mem_andA h2 hb
  have a5 := minA_as hb h1
  have m5 : ∀ a, a ∈ minA (minA b G.on) G.off ↔ (a ∈ b ∧ a ∉ G.on) ∧ a ∉ G.off := fun a => by rw [mem_minA a5 h2, mem_minA hb h1]
  have a6 := minA_as hb h2
  have m6 : ∀ a, a ∈ orA G.on (minA b G.off) ↔ a ∈ G.on ∨ a ∈ b ∧ a ∉ G.off := fun a => by rw [mem_orA h1 a6, mem_minA hb h2]
  unfold excl
  split
  · refine ⟨orA_as h1 hb, minA_as h2 hb, fun a ha h => ?_, fun a ha => ?_, fun a ha => ?_⟩
    · have h3 := (m2 a).1 h
      rcases (m1 a).1 ha with h4 | h4
      · exact hd a h4 h3.1
      · exact h3.2 h4
    · rcases ha with ha | ha
      · rcases (m1 a).1 ha with h | h
        · exact .inl h
        · exact .inr (.inr h)
      · exact .inr (.inl ((m2 a).1 ha).1)
    · rcases (m1 a).1 ha with h | h
      · exact .inr (.inr h)
      · exact .inl h
  · split
    · refine ⟨a6, andA_as h2 hb, fun a ha h => ((m3 a).1 ha).2 ((m4 a).1 h).1, fun a ha => ?_, fun a ha => ?_⟩
      · rcases ha with ha | ha
        · exact .inr (.inr ((m3 a).1 ha).1)
        · exact .inr (.inl ((m4 a).1 ha).1)
      · have h3 := (m3 a).1 ha
        by_cases hx : a ∈ G.on
        · exact .inr (.inr hx)
        · exact .inl ((m5 a).2 ⟨⟨h3.1, hx⟩, h3.2⟩)
    · split
      · refine ⟨a6, andA_as h2 hb, fun a ha h => ((m3 a).1 ha).2 ((m4 a).1 h).1, fun a ha => ?_, fun a ha => ?_⟩
        · rcases ha with ha | ha
          · exact .inr (.inr ((m3 a).1 ha).1)
          · exact .inr (.inl ((m4 a).1 ha).1)
        · have h3 := (m3 a).1 ha
          by_cases hx : a ∈ G.on
          · exact .inr (.inr hx)
          · exact .inr (.inl ((m5 a).2 ⟨⟨h3.1, hx⟩, h3.2⟩))
      · split
        · refine ⟨orA_as h1 a6, h2, fun a ha h => ?_, fun a ha => ?_, fun a ha => ?_⟩
          · rcases (m6 a).1 ha with h3 | h3
            · exact hd a h3 h
            · exact h3.2 h
          · rcases ha with ha | ha
            · rcases (m6 a).1 ha with h | h
              · exact .inl h
              · exact .inr (.inr h.1)
            · exact .inr (.inl ha)
          · rcases (m6 a).1 ha with h | h
            · exact .inr (.inr h)
            · by_cases hx : a ∈ G.on
              · exact .inr (.inr hx)
              · exact .inr (.inl ((m5 a).2 ⟨⟨h.1, hx⟩, h.2⟩))
        · refine ⟨h1, h2, hd, fun a ha => ?_, fun a ha => .inr (.inr ha)⟩
          rcases ha with ha | ha
          · exact .inl ha
          · exact .inr (.inl ha)
theorem EG.rec' {G : Gs} {C M n : Int} (h : EG G C n) (hM : 0 ≤ M ∧ M ≤ C) (k : Int) (l : List Ad) : EG (recG G M k l).1 C n := by
  have hb := ofA_as (roomG G k l).1
  have hs : StE G (stG G k l) (ofA (roomG G k l).1) := by
    unfold stG appl
    cases hx : G.ex with
    | true => exact excl_e k h.on h.off h.dis hb
    | false => exact (incl_e k h.on hb).1
  have hlen : (stG G k l).on.length + (stG G k l).off.length ≤ 32 := by
    by_cases hk : k = 6 ∧ G.ex = false
    · have e := (incl_e (G := G) k h.on hb).2 hk.1
      have e1 : stG G k l = incl G.on k (ofA (roomG G k l).1) := by
        unfold stG appl
        rw [hk.2]
        rfl
      rw [e1, e.1, e.2]
      have := h.sum
      simp only [List.length_nil]
      omega
    · rw [← List.length_append]
      refine roomG_new k l hk h.on h.off h.sum _ (List.nodup_append.2 ⟨hs.on.nodup, hs.off.nodup, fun a ha b hb' e => hs.dis a ha (e ▸ hb')⟩) fun a ha => ?_
      rcases hs.sub a (List.mem_append.1 ha) with h3 | h3 | h3
      · exact .inl h3
      · exact .inr (.inl h3)
      · exact .inr (.inr (mem_ofA.1 h3).1)
  have hT : ∀ a, (recG G M k l).1.T a = onT (setT (setT G.T (stG G k l).full (G.now + M)) (stG G k l).rest G.till) (stG G k l).on a := fun a => rfl
  have hn := h.now
  have h0 := h.n0
  refine ⟨hn, h0, hs.on, hs.off, hs.dis, hlen, fun a ha => ?_, fun a ha => ?_, fun a t ht => ?_, ?_⟩
  · rw [hT] at ha
    unfold onT at ha
    split at ha
    · assumption
    · exact absurd rfl ha
  · rw [hT]
    have ha' : a ∈ (stG G k l).on := ha
    unfold onT setT
    rw [if_pos ha']
    split
    · exact ⟨_, rfl⟩
    · split
      · exact ⟨_, rfl⟩
      · rcases hs.dl a ha' with h3 | h3 | h3
        · contradiction
        · contradiction
        · exact h.dl a h3
  · rw [hT] at ht
    unfold onT setT at ht
    split at ht
    · split at ht
      · cases ht; have := h.till; omega
      · split at ht
        · cases ht; omega
        · exact h.tb a t ht
    · cases ht
  · show 0 ≤ (if (stG G k l).grp then G.now + M else G.till) ∧ (if (stG G k l).grp then G.now + M else G.till) ≤ n + C
    have := h.till
    split <;> omega
theorem EG.hear {G : Gs} {C M n : Int} (h : EG G C n) {m : Int} (hm : n ≤ m) (h1 : m ≤ 1000000000000) (hM : 0 ≤ M ∧ M ≤ C) (older k : Int) (l : List Ad) : EG (hearG G m M older k l).1 C m := by
  have h2 := (h.settle hm h1 (by omega)).hears M older
  unfold hearG
  split
  · exact h2
  · exact h2.rec' hM _ _
/-- .. and then nothing is left -/
theorem EG.gone {G : Gs} {M n : Int} (h : EG G M n) (hM : 0 ≤ M) (h1 : n + M ≤ 1000000000000) : (settleG G (n + M)).ex = false ∧ (settleG G (n + M)).on = [] ∧ ∀ a, (settleG G (n + M)).T a = none := by
  have hw := h.nowE (m := n + M) (by omega) h1
  refine ⟨?_, ?_, fun a => ?_⟩
  · show (G.ex && !goneG G (n + M)) = false
    unfold goneG
    rw [hw]
    cases hx : G.ex with
    | false => rfl
    | true =>
      have := h.till
      simp
      omega
  · show (G.on.filter fun a => !dueB G.T (nowG G (n + M)) a) = []
    rw [hw]
    refine List.filter_eq_nil_iff.2 fun a ha => ?_
    obtain ⟨t, ht⟩ := h.dl a ha
    have := h.tb a t ht
    have hd : dueB G.T (n + M) a = true := dueB_iff.2 ⟨t, ht, by omega⟩
    rw [hd]
    simp
  · show updn G.T (nowG G (n + M)) a = none
    rw [hw]
    unfold updn
    cases hT : G.T a with
    | none => rfl
    | some t =>
      have := h.tb a t hT
      simp only
      rw [if_pos (by omega)]
end Go.Proofs.YtcccdlmngddalaaGreat
namespace Go.Proofs.YtcccdlmngddalaaGreat
open Go.RowKit Go.Maps Go.Sort Go.Shelf Go.Lib
set_option linter.unusedVariables false
set_option linter.unusedSimpArgs false
theorem isNaNs (x : ByteArray) (w : World) : Calls Tryz.prog 153 #[.string x] w fun e w' => e = .returned (.bool false) ∧ w' = w := by
  go_enter Tryz.func153, Tryz.ntmps153
  go_wp2
  go_ret
  exact ⟨by simp, rfl⟩
theorem cmpS_ok (x y : ByteArray) (w : World) : Calls Tryz.prog 137 #[.string x, .string y] w fun e w' => (∃ r : Int, e = .returned (.int .i64 r)) ∧ w' = w := by
  obtain ⟨bo, hgt⟩ : ∃ bo : Bool, ∀ w', (binOp .gtr 9 (.string x) (.string y)).run Tryz.prog w' = .ok (.bool bo) w' := ⟨!(Op.bytesLess x.toList y.toList || x.toList == y.toList), fun w' => by
    rw [show binOp .gtr 9 (.string x) (.string y) = pure (.bool !(Op.bytesLess x.toList y.toList || x.toList == y.toList)) by simp [binOp, Op.stringOp]]
    rfl⟩
  go_enter Tryz.func137, Tryz.ntmps137
  go_wp2_with fail
  refine (isNaNs _ _).mono ?_; rintro e w1 ⟨rfl, rfl⟩
  go_wp2_with fail
  refine (isNaNs _ _).mono ?_; rintro e w2 ⟨rfl, rfl⟩
  go_wp2
  all_goals
    go_ret
    exact ⟨⟨_, rfl⟩, rfl⟩
theorem or2_ok (b : Nat) (x y : Int) (w : World) (h0 : w.cell? ⟨b, 0, none⟩ = some (.int .i64 x)) (h1 : w.cell? ⟨b, 1, none⟩ = some (.int .i64 y)) :
    Calls Tryz.prog 135 #[.slice (some ⟨b, 0, none⟩) 2 2] w fun e w' => (∃ r : Int, e = .returned (.int .i64 r)) ∧ w' = w := by
  go_enter Tryz.func135, Tryz.ntmps135
  go_wp2
  go_loop [8] (fun i => ∃ j : Nat, j ≤ 2 ∧ i = .int .i64 j) (fun i => 2 - (intOf i).toNat)
  case atStart => exact ⟨0, by omega, rfl⟩
  case round =>
    obtain ⟨j, hj, rfl⟩ := hrel
    rcases (show j = 0 ∨ j = 1 ∨ j = 2 by omega) with rfl | rfl | rfl
    · by_cases hx : x = 0
      · have HX := Lib.hid hx
        go_wp2
        go_round
        case rel => exact ⟨1, by omega, by go_num⟩
        case measure => simp [intOf]
      · go_wp2
        go_ret
        exact ⟨⟨_, rfl⟩, rfl⟩
    · by_cases hx : y = 0
      · have HX := Lib.hid hx
        go_wp2
        go_round
        case rel => exact ⟨2, by omega, by go_num⟩
        case measure => simp [intOf]
      · go_wp2
        go_ret
        exact ⟨⟨_, rfl⟩, rfl⟩
    · go_wp2
      go_ret
      exact ⟨⟨_, rfl⟩, rfl⟩
theorem mget_int (k : List UInt8) : ∀ L : List (Ad × Int), ∃ n : Int, (mgetS (enm L) k).getD (.int .i64 0) = .int .i64 n := by
  intro L
  cases h : mgetS (enm L) k with
  | none => exact ⟨0, rfl⟩
  | some v =>
    unfold mgetS at h
    obtain ⟨q, hq, rfl⟩ := Option.map_eq_some_iff.1 h
    obtain ⟨p, _, rfl⟩ := List.mem_map.1 (List.mem_of_find?_eq_some hq)
    exact ⟨p.2, rfl⟩
set_option maxRecDepth 100000 in
set_option maxHeartbeats 1000000 in
theorem before_ok {w : World} {c b : Nat} {T : Ad → Option Int} {L : List (Ad × Int)} (h : ClkAt w c b T L) (x y : List UInt8) :
    Calls Tryz.prog 102 #[.pointer (some ⟨c, 0, none⟩), encStr x, encStr y] w fun e w' => (∃ r : Int, e = .returned (.int .i64 r)) ∧ Mod (fun _ => False) w w' := by
  obtain ⟨n1, hn1⟩ := mget_int x L
  obtain ⟨n2, hn2⟩ := mget_int y L
  have hS : w.drew.cell? ⟨c, 0, none⟩ = some (.map (some b)) ∧ Ms w.drew b (enm L) := ⟨h.blk.cell rfl, h.mp.keep (Mod.refl (fun _ => False) w).drew fun f => f⟩
  have HL1 : Hid (∀ {o : Oper} {ev : Operand → Value} {x' i : Operand}, o.op = .lookup 130 x' i false → ev x' = .map (some b) → ev i = encStr x → ∀ w', Ms w' b (enm L) → (execOp ev o).run Tryz.prog w' = .ok (.value (.int .i64 n1)) w') := Lib.hid fun ho hx' hi w' hm => by
    have := exec_lookup_ms (P := Tryz.prog) Tryz.underlying130 Tryz.underlying9 zeroI ho hx' hi hm
    rw [if_neg (by simp), hn1] at this
    exact this
  have HL2 : Hid (∀ {o : Oper} {ev : Operand → Value} {x' i : Operand}, o.op = .lookup 130 x' i false → ev x' = .map (some b) → ev i = encStr y → ∀ w', Ms w' b (enm L) → (execOp ev o).run Tryz.prog w' = .ok (.value (.int .i64 n2)) w') := Lib.hid fun ho hx' hi w' hm => by
    have := exec_lookup_ms (P := Tryz.prog) Tryz.underlying130 Tryz.underlying9 zeroI ho hx' hi hm
    rw [if_neg (by simp), hn2] at this
    exact this
  clear hn1 hn2 h
  obtain ⟨sx, hsx⟩ : ∃ sx, encStr x = .string sx := ⟨_, rfl⟩
  obtain ⟨sy, hsy⟩ : ∃ sy, encStr y = .string sy := ⟨_, rfl⟩
  rw [hsx] at HL1 ⊢
  rw [hsy] at HL2 ⊢
  clear hsx hsy
  have HSH := Lib.hid hS
  clear hS
  have hS := HSH.out
  go_enter Tryz.func102, Tryz.ntmps102
  go_wp2_with fail
  refine wp_region_plan [] [(0, 0), (1, 0), (2, 0), (3, 1), (4, 0), (5, 1), (6, 0), (7, 0), (8, 0), (9, 1), (10, 0), (11, 1), (13, 0), (14, 0), (12, 2), (15, 2), (16, 2), (17, 2), (18, 0)] (fun w' : World => w'.cell? ⟨c, 0, none⟩ = some (.map (some b)) ∧ Ms w' b (enm L)) (by kernel_rfl) (by kernel_rfl) (fun d v c a w h => by first | (cases d <;> exact h) | exact HP d v c a w h) ?_
  repeat ((first | refine plan_skip rfl rfl ?_ | refine plan_pass2 rfl rfl ?_ | refine plan_pass3 rfl rfl ?_ | (refine plan_take (v := ?_) rfl rfl ?_ ?_; rotate_left; focus (intro w0; go_simp; try with_reducible rfl)) | (refine plan_held (v := ?_) rfl rfl hS ?_ ?_; rotate_left; focus (intro w0 hSw; (try dsimp only at hSw); go_split_ands; go_simp; try with_reducible rfl)) | refine plan_skip1 rfl rfl hS ?_); simp only [List.getElem_toArray, List.getElem_cons_succ, List.getElem_cons_zero, Act.put, List.setIfInBounds_toArray, List.set_cons_zero, List.set_cons_succ])
  (refine plan_held (v := .int .i64 n1) rfl rfl hS (fun w0 h0 => HL1.out rfl rfl rfl w0 h0.2) ?_; try simp only [List.getElem_toArray, List.getElem_cons_succ, List.getElem_cons_zero, Act.put, List.setIfInBounds_toArray, List.set_cons_zero, List.set_cons_succ])
  repeat ((first | refine plan_skip rfl rfl ?_ | refine plan_pass2 rfl rfl ?_ | refine plan_pass3 rfl rfl ?_ | (refine plan_take (v := ?_) rfl rfl ?_ ?_; rotate_left; focus (intro w0; go_simp; try with_reducible rfl)) | (refine plan_held (v := ?_) rfl rfl hS ?_ ?_; rotate_left; focus (intro w0 hSw; (try dsimp only at hSw); go_split_ands; go_simp; try with_reducible rfl)) | refine plan_skip1 rfl rfl hS ?_); simp only [List.getElem_toArray, List.getElem_cons_succ, List.getElem_cons_zero, Act.put, List.setIfInBounds_toArray, List.set_cons_zero, List.set_cons_succ])
  (refine plan_held (v := .int .i64 n2) rfl rfl hS (fun w0 h0 => HL2.out rfl rfl rfl w0 h0.2) ?_; try simp only [List.getElem_toArray, List.getElem_cons_succ, List.getElem_cons_zero, Act.put, List.setIfInBounds_toArray, List.set_cons_zero, List.set_cons_succ])
  repeat ((first | refine plan_skip rfl rfl ?_ | refine plan_pass2 rfl rfl ?_ | refine plan_pass3 rfl rfl ?_ | (refine plan_take (v := ?_) rfl rfl ?_ ?_; rotate_left; focus (intro w0; go_simp; try with_reducible rfl)) | (refine plan_held (v := ?_) rfl rfl hS ?_ ?_; rotate_left; focus (intro w0 hSw; (try dsimp only at hSw); go_split_ands; go_simp; try with_reducible rfl)) | refine plan_skip1 rfl rfl hS ?_); simp only [List.getElem_toArray, List.getElem_cons_succ, List.getElem_cons_zero, Act.put, List.setIfInBounds_toArray, List.set_cons_zero, List.set_cons_succ])
  (refine plan_do rfl rfl fun K hK => ?_; try simp only [List.getElem_toArray, List.getElem_cons_succ, List.getElem_cons_zero])
  go_simp
  refine (cmpI_any _ _ _).mono ?_; rintro e W1 ⟨rfl, rfl⟩
  refine hK _ _ hS ?_
  clear hK K
  try simp only [List.getElem_toArray, List.getElem_cons_succ, List.getElem_cons_zero, Act.put, List.setIfInBounds_toArray, List.set_cons_zero, List.set_cons_succ]
  (refine plan_do rfl rfl fun K hK => ?_; try simp only [List.getElem_toArray, List.getElem_cons_succ, List.getElem_cons_zero])
  go_simp
  refine (cmpS_ok _ _ _).mono ?_; rintro e W1 ⟨⟨r, rfl⟩, rfl⟩
  refine hK _ _ hS ?_
  clear hK K
  try simp only [List.getElem_toArray, List.getElem_cons_succ, List.getElem_cons_zero, Act.put, List.setIfInBounds_toArray, List.set_cons_zero, List.set_cons_succ]
  have HN := Lib.hid (Blk.new w.drew 3 [.int .i64 (cmpI n1 n2), .int .i64 r])
  have hS2 : (w.drew.alloc (.cells #[.int .i64 (cmpI n1 n2), .int .i64 r] 3 (0, 0))).cell? ⟨c, 0, none⟩ = some (.map (some b)) ∧ Ms (w.drew.alloc (.cells #[.int .i64 (cmpI n1 n2), .int .i64 r] 3 (0, 0))) b (enm L) := ⟨((Mod.refl (fun _ => False) _).alloc _).cell (fun f => f) hS.1, hS.2.keep ((Mod.refl (fun _ => False) _).alloc _) fun f => f⟩
  (refine plan_do rfl rfl fun K hK => ?_; (try simp only [List.getElem_toArray, List.getElem_cons_succ, List.getElem_cons_zero]); go_simp; refine hK _ _ hS2 ?_; clear hK K; try simp only [List.getElem_toArray, List.getElem_cons_succ, List.getElem_cons_zero, Act.put, List.setIfInBounds_toArray, List.set_cons_zero, List.set_cons_succ])
  (refine plan_do rfl rfl fun K hK => ?_; try simp only [List.getElem_toArray, List.getElem_cons_succ, List.getElem_cons_zero])
  go_simp
  refine (or2_ok _ _ _ _ (HN.out.cell rfl) (HN.out.cell rfl)).mono ?_; rintro e W2 ⟨⟨r2, rfl⟩, rfl⟩
  refine hK _ _ hS2 ?_
  clear hK K
  try simp only [List.getElem_toArray, List.getElem_cons_succ, List.getElem_cons_zero, Act.put, List.setIfInBounds_toArray, List.set_cons_zero, List.set_cons_succ]
  repeat ((first | refine plan_skip rfl rfl ?_ | refine plan_pass2 rfl rfl ?_ | refine plan_pass3 rfl rfl ?_ | (refine plan_take (v := ?_) rfl rfl ?_ ?_; rotate_left; focus (intro w0; go_simp; try with_reducible rfl)) | (refine plan_held (v := ?_) rfl rfl hS2 ?_ ?_; rotate_left; focus (intro w0 hSw; (try dsimp only at hSw); go_split_ands; go_simp; try with_reducible rfl)) | refine plan_skip1 rfl rfl hS2 ?_); simp only [List.getElem_toArray, List.getElem_cons_succ, List.getElem_cons_zero, Act.put, List.setIfInBounds_toArray, List.set_cons_zero, List.set_cons_succ])
  refine plan_nil ?_
  go_wp2
  go_ret
  exact ⟨⟨_, rfl⟩, ((Mod.refl (fun _ => False) w).drew.alloc _)⟩
theorem perm_unmap {α β : Type} (f : α → β) {l m : List β} (h : l.Perm m) : ∀ ks : List α, ks.map f = m → ∃ ks' : List α, ks'.Perm ks ∧ ks'.map f = l := by
  induction h with
  | nil => intro ks hk; exact ⟨ks, .refl _, hk⟩
  | @cons a l m _ ih =>
    intro ks hk
    cases ks with
    | nil => simp at hk
    | cons k ks =>
      simp only [List.map_cons, List.cons.injEq] at hk
      obtain ⟨ks', h1, h2⟩ := ih ks hk.2
      exact ⟨k :: ks', h1.cons k, by rw [List.map_cons, h2, hk.1]⟩
  | swap a a' l =>
    intro ks hk
    match ks, hk with
    | k :: k' :: ks, hk =>
      simp only [List.map_cons, List.cons.injEq] at hk
      exact ⟨k' :: k :: ks, .swap _ _ _, by simp [hk.1, hk.2.1, hk.2.2]⟩
    | [_], hk => simp at hk
    | [], hk => simp at hk
  | trans _ _ ih1 ih2 =>
    intro ks hk
    obtain ⟨k2, h1, h2⟩ := ih2 ks hk
    obtain ⟨k3, h3, h4⟩ := ih1 k2 h2
    exact ⟨k3, h3.trans h1, h4⟩
set_option maxRecDepth 100000 in
set_option maxHeartbeats 1000000 in
theorem srfS {c g n cap : Nat} {ss0 : List ByteArray} {w0 : World} (HC : Hid (SCx c g n cap ss0 w0)) {W : World} (hS : Srd g n cap ss0 w0 W) :
    Calls Tryz.prog 146 #[.slice (some ⟨g, 0, none⟩) n cap, .func (.func 102) #[.pointer (some ⟨c, 0, none⟩)] #[]] W fun e W' => e = .returned (.tuple #[]) ∧ Srd g n cap ss0 w0 W' := by
  have hn4 := HC.out.n4
  have un : IntKind.u64.wrap (n : Int) = (n : Int) := IntWalk.u64_in _ (by omega)
  have HS := Lib.hid hS
  have HLen : Hid (∀ w, Calls Tryz.prog 144 #[.int .u64 (n : Int)] w fun e w' => e = .returned (.int .i64 (Lib.bitLen (n : Int).toNat)) ∧ w' = w) := Lib.hid fun w => Any.bits_Len (SlLaysF0.n15.bits (P := Tryz.prog) (ρ := Tryz.sortFS_ren) { Tryz.sortFSx with }) (n : Int) w (by omega) (by omega)
  have HBL : Hid (Lib.bitLen (n : Int).toNat ≤ 64) := Lib.hid (Lib.bitLen_le _ 64 (by omega) (by omega))
  clear hS
  go_enter Tryz.func146, Tryz.ntmps146
  go_wp2_with fail
  refine (HLen.out _).mono ?_
  obtain ⟨l, hl⟩ : ∃ l, l = Lib.bitLen (n : Int).toNat := ⟨_, rfl⟩
  rw [← hl] at HBL ⊢
  rintro e w1 ⟨rfl, rfl⟩
  have HP := Lib.hid (pdqS HC (n + 1) _ 0 n l HS.out (Nat.zero_le _) (Nat.le_refl _) (by omega) HBL.out)
  rw [Int.ofNat_zero] at HP
  clear hl HLen
  go_wp2_with fail
  refine HP.out.mono ?_
  rintro e w2 ⟨rfl, hs2⟩
  have HS2 := Lib.hid hs2
  clear hs2
  go_wp2
  go_end0
  exact ⟨rfl, HS2.out⟩
theorem sortOk : SortOk 49 := by
  intro w c b T L f v ks hC hR h0 hN hf
  have hR' := hR
  unfold RowS at hR
  obtain ⟨a, cap, rfl, hnc, hcm, hg⟩ := Row.form hR
  obtain ⟨g, rfl, hfg, hlt, hc⟩ := hg h0
  have hgb := hf g hfg
  have hmap : (ks.map fun p => encStr p.1.kk) = (ks.map fun p => (⟨p.1.kk.toArray⟩ : ByteArray)).map Value.string := by rw [List.map_map]; rfl
  have hS : Srd g ks.length cap (ks.map fun p => (⟨p.1.kk.toArray⟩ : ByteArray)) w w := ⟨_, .refl _, by unfold SRow; rw [← hmap]; exact hR.mono fun _ _ => trivial, Mod.refl _ _⟩
  have HC : Hid (SCx c g ks.length cap (ks.map fun p => (⟨p.1.kk.toArray⟩ : ByteArray)) w) := Lib.hid ⟨hN, fun W x y hm hx hy => by
    obtain ⟨p, _, rfl⟩ := List.mem_map.1 hx
    obtain ⟨q, _, rfl⟩ := List.mem_map.1 hy
    exact before_ok (hC.keep hm (fun e => hgb.2 e.symm) fun e => hgb.1 e.symm) p.1.kk q.1.kk⟩
  refine (srfS HC hS).mono ?_
  rintro e w' ⟨rfl, ss, h1, h2, h3⟩
  obtain ⟨ks', h4, h5⟩ := perm_unmap (fun p : Ad × Int => (⟨p.1.kk.toArray⟩ : ByteArray)) h1 ks rfl
  refine ⟨rfl, ks', h4, ?_, h3.mono fun k hk => .inl (by rw [hk]; rfl)⟩
  have hl := h4.length_eq
  unfold RowS
  have hmap' : (ks'.map fun p => encStr p.1.kk) = ss.map Value.string := by rw [← h5, List.map_map]; rfl
  rw [hmap', hl]
  exact ⟨h2.1, hR.2⟩
end Go.Proofs.YtcccdlmngddalaaGreat
namespace Go.Proofs.YtcccdlmngddalaaGreat
open Go.RowKit Go.Maps Go.Sort Go.Shelf
set_option linter.unusedVariables false
set_option linter.unusedSimpArgs false
def GoodP (t : Tn) (w : World) (e : Ending) (w' : World) : Prop := ∃ x : Bool, e = .returned (.bool x) ∧ (x = true → t.ok) ∧ Mod (fun _ => False) w w'
set_option maxRecDepth 100000 in
set_option maxHeartbeats 4000000 in
theorem refGood (t : Tn) (w : World) : Calls Tryz.prog 14 #[.agg t.c.toArray] w (GoodP t w) := by
  have hb := Blk.new w 32 t.c
  have c0 := hb.cell (j := 0) rfl
  have c1 := hb.cell (j := 1) rfl
  have c2 := hb.cell (j := 2) rfl
  have c3 := hb.cell (j := 3) rfl
  have c4 := hb.cell (j := 4) rfl
  have HM : Hid (Mod (fun _ => False) w (w.alloc (.cells t.c.toArray 32 (0, 0)))) := Lib.hid ((Mod.refl _ _).alloc _)
  clear hb
  by_cases d0 : t.robust < 1
  · have e0 : decide (t.robust < 1) = true := decide_eq_true d0
    go_enter Tryz.func14, Tryz.ntmps14
    go_wp2
    go_ret
    exact (show GoodP t w _ _ from ⟨false, rfl, fun h => (by cases h), HM.out⟩)
  · have e0 : decide (t.robust < 1) = false := decide_eq_false d0
    by_cases d1 : t.robust > 7
    · have e1 : decide (t.robust > 7) = true := decide_eq_true d1
      go_enter Tryz.func14, Tryz.ntmps14
      go_wp2
      go_ret
      exact (show GoodP t w _ _ from ⟨false, rfl, fun h => (by cases h), HM.out⟩)
    · have e1 : decide (t.robust > 7) = false := decide_eq_false d1
      by_cases d2 : t.count < 1
      · have e2 : decide (t.count < 1) = true := decide_eq_true d2
        go_enter Tryz.func14, Tryz.ntmps14
        go_wp2
        go_ret
        exact (show GoodP t w _ _ from ⟨false, rfl, fun h => (by cases h), HM.out⟩)
      · have e2 : decide (t.count < 1) = false := decide_eq_false d2
        by_cases d3 : t.count > 7
        · have e3 : decide (t.count > 7) = true := decide_eq_true d3
          go_enter Tryz.func14, Tryz.ntmps14
          go_wp2
          go_ret
          exact (show GoodP t w _ _ from ⟨false, rfl, fun h => (by cases h), HM.out⟩)
        · have e3 : decide (t.count > 7) = false := decide_eq_false d3
          by_cases d4 : t.every < 1
          · have e4 : decide (t.every < 1) = true := decide_eq_true d4
            go_enter Tryz.func14, Tryz.ntmps14
            go_wp2
            go_ret
            exact (show GoodP t w _ _ from ⟨false, rfl, fun h => (by cases h), HM.out⟩)
          · have e4 : decide (t.every < 1) = false := decide_eq_false d4
            by_cases d5 : t.every > 317440
            · have e5 : decide (t.every > 317440) = true := decide_eq_true d5
              go_enter Tryz.func14, Tryz.ntmps14
              go_wp2
              go_ret
              exact (show GoodP t w _ _ from ⟨false, rfl, fun h => (by cases h), HM.out⟩)
            · have e5 : decide (t.every > 317440) = false := decide_eq_false d5
              by_cases d6 : t.resp > 0
              · have e6 : decide (t.resp > 0) = true := decide_eq_true d6
                by_cases d7 : t.resp < 31745
                · have e7 : decide (t.resp < 31745) = true := decide_eq_true d7
                  by_cases d8 : t.last > 0
                  · have e8 : decide (t.last > 0) = true := decide_eq_true d8
                    by_cases d9 : t.last < 31745
                    · have e9 : decide (t.last < 31745) = true := decide_eq_true d9
                      by_cases d10 : t.resp ≤ t.every
                      · have e10 : decide (t.resp ≤ t.every) = true := decide_eq_true d10
                        have HOK : Hid t.ok := Lib.hid (by unfold Tn.ok; omega)
                        go_enter Tryz.func14, Tryz.ntmps14
                        go_wp2
                        go_ret
                        exact (show GoodP t w _ _ from ⟨true, rfl, fun _ => HOK.out, HM.out⟩)
                      · have e10 : decide (t.resp ≤ t.every) = false := decide_eq_false d10
                        go_enter Tryz.func14, Tryz.ntmps14
                        go_wp2
                        go_ret
                        exact (show GoodP t w _ _ from ⟨false, rfl, fun h => (by cases h), HM.out⟩)
                    · have e9 : decide (t.last < 31745) = false := decide_eq_false d9
                      go_enter Tryz.func14, Tryz.ntmps14
                      go_wp2
                      go_ret
                      exact (show GoodP t w _ _ from ⟨false, rfl, fun h => (by cases h), HM.out⟩)
                  · have e8 : decide (t.last > 0) = false := decide_eq_false d8
                    go_enter Tryz.func14, Tryz.ntmps14
                    go_wp2
                    go_ret
                    exact (show GoodP t w _ _ from ⟨false, rfl, fun h => (by cases h), HM.out⟩)
                · have e7 : decide (t.resp < 31745) = false := decide_eq_false d7
                  go_enter Tryz.func14, Tryz.ntmps14
                  go_wp2
                  go_ret
                  exact (show GoodP t w _ _ from ⟨false, rfl, fun h => (by cases h), HM.out⟩)
              · have e6 : decide (t.resp > 0) = false := decide_eq_false d6
                go_enter Tryz.func14, Tryz.ntmps14
                go_wp2
                go_ret
                exact (show GoodP t w _ _ from ⟨false, rfl, fun h => (by cases h), HM.out⟩)
set_option maxRecDepth 100000 in
theorem refMember (t : Tn) (ht : t.ok) (w : World) : Calls Tryz.prog 17 #[.agg t.c.toArray] w fun e w' => e = .returned (.int .i64 t.member) ∧ Mod (fun _ => False) w w' := by
  have hb := Blk.new w 32 t.c
  have c0 := hb.cell (j := 0) rfl
  have c1 := hb.cell (j := 1) rfl
  have c2 := hb.cell (j := 2) rfl
  have e1 : IntKind.i64.wrap (t.robust * t.every) = t.robust * t.every := IntWalk.i64_in _ (by obtain ⟨a, b, c, d, e, f, _⟩ := ht; have := Tn.prod a b c d; omega)
  have e2 : IntKind.i64.wrap (t.robust * t.every + t.resp) = t.member := IntWalk.i64_in _ (by have := Tn.member_bd ht; unfold Tn.member at this; omega)
  have HM : Hid (Mod (fun _ => False) w (w.alloc (.cells t.c.toArray 32 (0, 0)))) := Lib.hid ((Mod.refl _ _).alloc _)
  clear hb ht
  go_enter Tryz.func17, Tryz.ntmps17
  go_wp2
  go_ret
  exact ⟨rfl, HM.out⟩
set_option maxRecDepth 100000 in
theorem refGone (a1 : Option Addr) (k1 : Nat) (v2 : Value) (w : World) : Calls Tryz.prog 18 #[.agg #[.bool false, .slice a1 0 k1, v2]] w fun e w' => e = .returned (.bool true) ∧ Mod (fun _ => False) w w' := by
  have hb := Blk.new w 26 [.bool false, .slice a1 0 k1, v2]
  have c0 := hb.cell (j := 0) rfl
  have c1 := hb.cell (j := 1) rfl
  have HM : Hid (Mod (fun _ => False) w (w.alloc (.cells #[.bool false, .slice a1 0 k1, v2] 26 (0, 0)))) := Lib.hid ((Mod.refl _ _).alloc _)
  clear hb
  go_enter Tryz.func18, Tryz.ntmps18
  go_wp2
  go_ret
  exact ⟨rfl, HM.out⟩
set_option maxRecDepth 100000 in
set_option maxHeartbeats 1000000 in
theorem addrs_any {w : World} {ad : Option Addr} {n cap : Nat} {l : List Ad} (h : RdA w (.slice ad n cap) l) : Calls Tryz.prog 20 #[.slice ad n cap, .int .i64 5] w fun e w' => ∃ a1 n1 k1, e = .returned (.slice a1 n1 k1) ∧ RowA w' (fun q => w.heap.size ≤ q) (.slice a1 n1 k1) (l.take 5) ∧ Mod (fun _ => False) w w' := by
  have hn : n = l.length ∧ n ≤ cap ∧ cap ≤ maxLen := by
    obtain ⟨a', c', e, h1, h2, _⟩ := h
    injection e with _ e2 e3
    omega
  have HN := Lib.hid hn
  have HH := Lib.hid h
  have hnm : n ≤ 9223372036854775807 := by have := hn.2; unfold maxLen at this; omega
  clear h hn
  go_enter Tryz.func20, Tryz.ntmps20
  go_wp2_with fail
  go_loopw [5, 6] (fun v5 iv wr => ∃ j : Nat, j ≤ n ∧ j ≤ 5 ∧ iv = .int .i64 (j : Int) ∧ RowA wr (fun q => w.heap.size ≤ q) v5 (l.take j) ∧ Mod (fun _ => False) w wr) (fun _ iv _ => 5 - (intOf iv).toNat)
  case atStart => exact ⟨0, Nat.zero_le _, Nat.zero_le _, rfl, Row.empty w _ 17, (Mod.refl _ _).alloc _⟩
  case round =>
    obtain ⟨j, hj, hj5, rfl, hrow, hmw⟩ := hrel
    obtain ⟨a5, n5, c5, rfl⟩ := hrow.sl
    have HROW := Lib.hid hrow
    have HMW := Lib.hid hmw
    clear hrow hmw
    by_cases hlt : j < n
    · have hlt1 : (j : Int) < (n : Int) := by omega
      by_cases hl5 : j < 5
      · have hl51 : (j : Int) < 5 := by omega
        obtain ⟨g, o, cap', e, hc1, hc2, hra⟩ := HH.out.at (j := j) (by rw [← HN.out.1]; exact hlt)
        simp only [Value.slice.injEq] at e
        obtain ⟨rfl, -, rfl⟩ := e
        obtain ⟨x, hx⟩ : ∃ x, l[j]? = some x := ⟨_, List.getElem?_eq_getElem (by rw [← HN.out.1]; exact hlt)⟩
        have HXR := Lib.hid (keepRange HMW.out (hra j x hx))
        have HXL := Lib.hid x.c_len
        have HX1 := Lib.hid x.c_one
        have HXS := Lib.hid x.c_sz
        have HSN : Hid (l.take (j + 1) = l.take j ++ [x]) := Lib.hid (by rw [List.take_add_one, hx]; rfl)
        obtain ⟨lj, hlj⟩ : ∃ lj, lj = l.take j := ⟨_, rfl⟩
        rw [← hlj] at HROW HSN
        have HLK : Hid (lj.length ≤ 5) := Lib.hid (by rw [hlj, List.length_take]; omega)
        clear hx hlj hra hc1 hc2
        go_wp2_with (first
          | (refine wpList_load_midG rfl _ _ rfl g (o + j * 17) rfl x.c _ HXR.out Tryz.underlying36 rfl HXS.out ?_)
          | (refine wpList_buildSlice1 Tryz.elA rfl _ rfl x.c rfl HXL.out (by decide) (by decide) ?_)
          | (at_builtin; refine wpList_append_one Tryz.elA rfl (.tmp 19) (.tmp 24) rfl x.c.toArray (fun q => w.heap.size ≤ q) (.slice a5 n5 c5) lj.length (cellsA lj) (HROW.out.alloc _) _ (allocNew wr _) rfl rfl (by simpa using HXL.out) (by simpa using HX1.out) (by have := HLK.out; omega) (by have := HLK.out; unfold maxLen; omega) ?_; intro v9 w9 h9 h9m; have H9 := Lib.hid h9; have H9M := Lib.hid h9m; clear h9 h9m))
        go_roundw
        case rel =>
          refine ⟨j + 1, by omega, by omega, by go_num, ?_, (HMW.out.alloc _).trans H9M.out fun q hq => .inr (HROW.out.2 q hq)⟩
          rw [HSN.out]
          unfold RowA
          rw [cellsA_app, show cellsA [x] = x.c by simp [cellsA], List.length_append]
          have hsz := HMW.out.size
          exact H9.out.mono fun q hq => hq.elim (fun h => h) fun h => by simp at h; omega
        case measure => simp [intOf]; omega
      · have hl51 : ¬ (j : Int) < 5 := by omega
        have HF : Hid (l.take 5 = l.take j) := Lib.hid (by rw [show j = 5 by omega])
        go_wp2
        go_ret
        exact ⟨a5, n5, c5, rfl, by rw [HF.out]; exact HROW.out, HMW.out⟩
    · have hlt1 : ¬ (j : Int) < (n : Int) := by omega
      have HF : Hid (l.take 5 = l.take j) := Lib.hid (by rw [List.take_of_length_le (i := j) (by have := HN.out.1; omega), List.take_of_length_le (by have := HN.out.1; omega)])
      go_wp2
      go_ret
      exact ⟨a5, n5, c5, rfl, by rw [HF.out]; exact HROW.out, HMW.out⟩
def clampW (n : Int) : Int := if 1000000 < n then 1000000 else if n < -1000000 then -1000000 else n
theorem clampW_bd (n : Int) : -1000000 ≤ clampW n ∧ clampW n ≤ 1000000 := by unfold clampW; split <;> (try split) <;> omega
def GA.cut (x : GA) : GA := { x with wait := clampW x.wait, src := x.src.take 5 }
theorem GA.c_set1 (x : GA) (v : Value) (n : Int) : (x.c v).set 1 (.int .i64 n) = ({ x with wait := n } : GA).c v := rfl
theorem GA.c_21 (x : GA) (v : Value) : (x.c v)[21]? = some v := by
  have h := x.g.c_len
  unfold GA.c recC
  rw [show (21 : Nat) = 20 + 1 from rfl, List.getElem?_cons_succ, show (20 : Nat) = 19 + 1 from rfl, List.getElem?_cons_succ, show (19 : Nat) = 18 + 1 from rfl, List.getElem?_cons_succ]
  rw [List.cons_append, show (18 : Nat) = 17 + 1 from rfl, List.getElem?_cons_succ, List.append_assoc, List.getElem?_append_right (by omega), h]
  rfl
theorem GA.c_set21 (x : GA) (v u : Value) : (x.c v).set 21 u = x.c u := by
  have h := x.g.c_len
  unfold GA.c recC
  rw [show (21 : Nat) = 20 + 1 from rfl, List.set_cons_succ, show (20 : Nat) = 19 + 1 from rfl, List.set_cons_succ, show (19 : Nat) = 18 + 1 from rfl, List.set_cons_succ]
  rw [List.cons_append, show (18 : Nat) = 17 + 1 from rfl, List.set_cons_succ, List.append_assoc, List.set_append, if_neg (by omega), h]
  simp
theorem GA.c_one (x : GA) (v : Value) (hv : v.oneCell' = true) : ∀ u ∈ x.c v, u.oneCell' = true := fun u hu => by
  unfold GA.c at hu
  simp only [List.mem_cons, List.mem_append, List.not_mem_nil, or_false] at hu
  rcases hu with rfl | rfl | rfl | hu | rfl
  · rfl
  · rfl
  · rfl
  · exact recC_one _ _ _ hv u hu
  · rfl
theorem GA.c_sz (x : GA) (v : Value) : (Tryz.prog.info? 46).map (·.size) = some (x.c v).length := by rw [x.c_len]; kernel_rfl
theorem adSz : (Tryz.prog.info? 24).map (·.size) = some 1 := by kernel_rfl
set_option maxRecDepth 100000 in
set_option maxHeartbeats 2000000 in
theorem act_any {w : World} (x : GA) {ad : Option Addr} {n cap : Nat} (h : RdA w (.slice ad n cap) x.src) : Calls Tryz.prog 15 #[.agg (x.c (.slice ad n cap)).toArray] w fun e w' => ∃ a1 n1 k1, e = .returned (.agg (x.cut.c (.slice a1 n1 k1)).toArray) ∧ RowA w' (fun q => w.heap.size ≤ q) (.slice a1 n1 k1) x.cut.src ∧ Mod (fun _ => False) w w' := by
  have HW : Hid (Mod (fun _ => False) w ((w.alloc (.cells (x.c (.slice ad n cap)).toArray 46 (0, 0))).alloc (.cells #[.int .i64 0, .int .i64 0, .int .i64 0, .int .i64 0, .bool false, .int .u8 0, .int .u8 0, .int .u8 0, .int .u8 0, .int .u8 0, .int .u8 0, .int .u8 0, .int .u8 0, .int .u8 0, .int .u8 0, .int .u8 0, .int .u8 0, .int .u8 0, .int .u8 0, .int .u8 0, .int .u8 0, .slice none 0 0, .bool false] 46 (0, 0)))) := Lib.hid (((Mod.refl _ _).alloc _).alloc _)
  have HX0 : Hid (Blk ((w.alloc (.cells (x.c (.slice ad n cap)).toArray 46 (0, 0))).alloc (.cells #[.int .i64 0, .int .i64 0, .int .i64 0, .int .i64 0, .bool false, .int .u8 0, .int .u8 0, .int .u8 0, .int .u8 0, .int .u8 0, .int .u8 0, .int .u8 0, .int .u8 0, .int .u8 0, .int .u8 0, .int .u8 0, .int .u8 0, .int .u8 0, .int .u8 0, .int .u8 0, .int .u8 0, .slice none 0 0, .bool false] 46 (0, 0))) w.heap.size 46 (x.c (.slice ad n cap))) := Lib.hid ((Blk.new w _ _).alloc _)
  have HZ0 : Hid (Blk ((w.alloc (.cells (x.c (.slice ad n cap)).toArray 46 (0, 0))).alloc (.cells #[.int .i64 0, .int .i64 0, .int .i64 0, .int .i64 0, .bool false, .int .u8 0, .int .u8 0, .int .u8 0, .int .u8 0, .int .u8 0, .int .u8 0, .int .u8 0, .int .u8 0, .int .u8 0, .int .u8 0, .int .u8 0, .int .u8 0, .int .u8 0, .int .u8 0, .int .u8 0, .int .u8 0, .slice none 0 0, .bool false] 46 (0, 0))) (w.heap.size + 1) 46 [.int .i64 0, .int .i64 0, .int .i64 0, .int .i64 0, .bool false, .int .u8 0, .int .u8 0, .int .u8 0, .int .u8 0, .int .u8 0, .int .u8 0, .int .u8 0, .int .u8 0, .int .u8 0, .int .u8 0, .int .u8 0, .int .u8 0, .int .u8 0, .int .u8 0, .int .u8 0, .int .u8 0, .slice none 0 0, .bool false]) := Lib.hid (by
    have := Blk.new (w.alloc (.cells (x.c (.slice ad n cap)).toArray 46 (0, 0))) 46 [.int .i64 0, .int .i64 0, .int .i64 0, .int .i64 0, .bool false, .int .u8 0, .int .u8 0, .int .u8 0, .int .u8 0, .int .u8 0, .int .u8 0, .int .u8 0, .int .u8 0, .int .u8 0, .int .u8 0, .int .u8 0, .int .u8 0, .int .u8 0, .int .u8 0, .int .u8 0, .int .u8 0, .slice none 0 0, .bool false]
    rwa [show (w.alloc (.cells (x.c (.slice ad n cap)).toArray 46 (0, 0))).heap.size = w.heap.size + 1 by simp] at this)
  have x21 : ((w.alloc (.cells (x.c (.slice ad n cap)).toArray 46 (0, 0))).alloc (.cells #[.int .i64 0, .int .i64 0, .int .i64 0, .int .i64 0, .bool false, .int .u8 0, .int .u8 0, .int .u8 0, .int .u8 0, .int .u8 0, .int .u8 0, .int .u8 0, .int .u8 0, .int .u8 0, .int .u8 0, .int .u8 0, .int .u8 0, .int .u8 0, .int .u8 0, .int .u8 0, .int .u8 0, .slice none 0 0, .bool false] 46 (0, 0))).cell? ⟨w.heap.size, 21, none⟩ = some (.slice ad n cap) := HX0.out.cell (x.c_21 _)
  have HR0 := Lib.hid (h.keep0 HW.out)
  clear h
  go_enter Tryz.func15, Tryz.ntmps15
  go_wp2_with fail
  refine (addrs_any HR0.out).mono ?_
  rintro e W1 ⟨a1, n1, k1, rfl, hr1, hm1⟩
  have HR1 := Lib.hid hr1
  have HX1 := Lib.hid (HX0.out.keep hm1 fun f => f)
  have HZ1 := Lib.hid (HZ0.out.keep hm1 fun f => f)
  have HM1 : Hid (Mod (fun _ => False) w W1) := Lib.hid (HW.out.trans hm1 fun _ f => f.elim)
  have hsz := HW.out.size
  have hlt1 := HX1.out.lt
  have hlt2 := HZ1.out.lt
  have HLT : Hid (w.heap.size ≤ ((w.alloc (.cells (x.c (.slice ad n cap)).toArray 46 (0, 0))).alloc (.cells #[.int .i64 0, .int .i64 0, .int .i64 0, .int .i64 0, .bool false, .int .u8 0, .int .u8 0, .int .u8 0, .int .u8 0, .int .u8 0, .int .u8 0, .int .u8 0, .int .u8 0, .int .u8 0, .int .u8 0, .int .u8 0, .int .u8 0, .int .u8 0, .int .u8 0, .int .u8 0, .int .u8 0, .slice none 0 0, .bool false] 46 (0, 0))).heap.size ∧ ((w.alloc (.cells (x.c (.slice ad n cap)).toArray 46 (0, 0))).alloc (.cells #[.int .i64 0, .int .i64 0, .int .i64 0, .int .i64 0, .bool false, .int .u8 0, .int .u8 0, .int .u8 0, .int .u8 0, .int .u8 0, .int .u8 0, .int .u8 0, .int .u8 0, .int .u8 0, .int .u8 0, .int .u8 0, .int .u8 0, .int .u8 0, .int .u8 0, .int .u8 0, .int .u8 0, .slice none 0 0, .bool false] 46 (0, 0))).heap.size = w.heap.size + 2) := Lib.hid ⟨hsz, by simp⟩
  clear hr1 hm1 HR0 HX0 HZ0 x21 hsz hlt1 hlt2
  by_cases d1 : 1000000 < x.wait
  · have HCL : Hid (clampW x.wait = 1000000) := Lib.hid (if_pos d1)
    have d1' : x.wait > 1000000 := d1
    go_wp2_with (first | (refine wpList_store_blk1 rfl 24 _ _ rfl w.heap.size 21 46 _ (.slice a1 n1 k1) rfl (by go_simp) HX1.out (by rw [GA.c_len]; omega) adSz rfl ?_; intro W2 hb2 hm2; have HX2 := Lib.hid (x.c_set21 _ _ ▸ hb2.out); have HM2 := hm2; have y1 : W2.cell? ⟨w.heap.size, 1, none⟩ = some (.int .i64 x.wait) := HX2.out.cell rfl; clear hb2 hm2) | (refine wpList_store_blk1 rfl 3 _ _ rfl w.heap.size 1 46 _ (.int .i64 (1000000)) rfl rfl HX2.out (by rw [GA.c_len]; omega) iSz rfl ?_; intro W3 hb3 hm3; have HX3 := Lib.hid (GA.c_set1 x (.slice a1 n1 k1) (1000000) ▸ hb3.out); have HM3 := hm3; have y3 : W3.cell? ⟨w.heap.size, 1, none⟩ = some (.int .i64 (1000000)) := HX3.out.cell rfl; clear hb3 hm3 y1) | (refine wpList_load_blk rfl _ _ rfl w.heap.size 0 rfl 46 (({ x with wait := 1000000 } : GA).c (.slice a1 n1 k1)) (({ x with wait := 1000000 } : GA).c (.slice a1 n1 k1)) _ HX3.out (List.take_of_length_le (Nat.le_refl _)) Tryz.underlying46 rfl (GA.c_sz _ _) ?_) | (refine wpList_store_blk rfl _ _ _ rfl (w.heap.size + 1) 0 46 [.int .i64 0, .int .i64 0, .int .i64 0, .int .i64 0, .bool false, .int .u8 0, .int .u8 0, .int .u8 0, .int .u8 0, .int .u8 0, .int .u8 0, .int .u8 0, .int .u8 0, .int .u8 0, .int .u8 0, .int .u8 0, .int .u8 0, .int .u8 0, .int .u8 0, .int .u8 0, .int .u8 0, .slice none 0 0, .bool false] (({ x with wait := 1000000 } : GA).c (.slice a1 n1 k1)) rfl rfl ((HZ1.out.keep HM2.out fun e => by omega).keep HM3.out fun e => by omega) (by rw [GA.c_len]; simp) (GA.c_sz _ _) (GA.c_one _ _ rfl) ?_; intro W5 HZ5 HM5))
    have hcut : x.cut.c (.slice a1 n1 k1) = ({ x with wait := 1000000 } : GA).c (.slice a1 n1 k1) := by unfold GA.cut; rw [HCL.out]; rfl
    refine bodyPost_ret (results_blk rfl _ (w.heap.size + 1) 46 (({ x with wait := 1000000 } : GA).c (.slice a1 n1 k1)) rfl (splice_all HZ5.out (by rw [GA.c_len]; rfl)) Tryz.underlying46 rfl (GA.c_sz _ _)) rfl ?_
    refine ⟨a1, n1, k1, by rw [hcut], ?_, ((HM1.out.trans HM2.out fun q hq => .inr (by omega)).trans HM3.out fun q hq => .inr (by omega)).trans HM5.out fun q hq => .inr (by omega)⟩
    have hr := ((HR1.out.keepT HM2.out (HX1.out.notA (by decide))).keepT HM3.out (HX2.out.notA (by decide)))
    exact (hr.keepT HM5.out ((((HZ1.out.keep HM2.out fun e => by omega).keep HM3.out fun e => by omega)).notA (by decide))).mono fun q hq => by have := HLT.out; omega
  · have d1' : ¬ x.wait > 1000000 := d1
    by_cases d2 : x.wait < -1000000
    · have HCL : Hid (clampW x.wait = -1000000) := Lib.hid (by unfold clampW; rw [if_neg d1, if_pos d2])
      go_wp2_with (first | (refine wpList_store_blk1 rfl 24 _ _ rfl w.heap.size 21 46 _ (.slice a1 n1 k1) rfl (by go_simp) HX1.out (by rw [GA.c_len]; omega) adSz rfl ?_; intro W2 hb2 hm2; have HX2 := Lib.hid (x.c_set21 _ _ ▸ hb2.out); have HM2 := hm2; have y1 : W2.cell? ⟨w.heap.size, 1, none⟩ = some (.int .i64 x.wait) := HX2.out.cell rfl; clear hb2 hm2) | (refine wpList_store_blk1 rfl 3 _ _ rfl w.heap.size 1 46 _ (.int .i64 (-1000000)) rfl rfl HX2.out (by rw [GA.c_len]; omega) iSz rfl ?_; intro W3 hb3 hm3; have HX3 := Lib.hid (GA.c_set1 x (.slice a1 n1 k1) (-1000000) ▸ hb3.out); have HM3 := hm3; have y3 : W3.cell? ⟨w.heap.size, 1, none⟩ = some (.int .i64 (-1000000)) := HX3.out.cell rfl; clear hb3 hm3 y1) | (refine wpList_load_blk rfl _ _ rfl w.heap.size 0 rfl 46 (({ x with wait := -1000000 } : GA).c (.slice a1 n1 k1)) (({ x with wait := -1000000 } : GA).c (.slice a1 n1 k1)) _ HX3.out (List.take_of_length_le (Nat.le_refl _)) Tryz.underlying46 rfl (GA.c_sz _ _) ?_) | (refine wpList_store_blk rfl _ _ _ rfl (w.heap.size + 1) 0 46 [.int .i64 0, .int .i64 0, .int .i64 0, .int .i64 0, .bool false, .int .u8 0, .int .u8 0, .int .u8 0, .int .u8 0, .int .u8 0, .int .u8 0, .int .u8 0, .int .u8 0, .int .u8 0, .int .u8 0, .int .u8 0, .int .u8 0, .int .u8 0, .int .u8 0, .int .u8 0, .int .u8 0, .slice none 0 0, .bool false] (({ x with wait := -1000000 } : GA).c (.slice a1 n1 k1)) rfl rfl ((HZ1.out.keep HM2.out fun e => by omega).keep HM3.out fun e => by omega) (by rw [GA.c_len]; simp) (GA.c_sz _ _) (GA.c_one _ _ rfl) ?_; intro W5 HZ5 HM5))
      have hcut : x.cut.c (.slice a1 n1 k1) = ({ x with wait := -1000000 } : GA).c (.slice a1 n1 k1) := by unfold GA.cut; rw [HCL.out]; rfl
      refine bodyPost_ret (results_blk rfl _ (w.heap.size + 1) 46 (({ x with wait := -1000000 } : GA).c (.slice a1 n1 k1)) rfl (splice_all HZ5.out (by rw [GA.c_len]; rfl)) Tryz.underlying46 rfl (GA.c_sz _ _)) rfl ?_
      refine ⟨a1, n1, k1, by rw [hcut], ?_, ((HM1.out.trans HM2.out fun q hq => .inr (by omega)).trans HM3.out fun q hq => .inr (by omega)).trans HM5.out fun q hq => .inr (by omega)⟩
      have hr := ((HR1.out.keepT HM2.out (HX1.out.notA (by decide))).keepT HM3.out (HX2.out.notA (by decide)))
      exact (hr.keepT HM5.out ((((HZ1.out.keep HM2.out fun e => by omega).keep HM3.out fun e => by omega)).notA (by decide))).mono fun q hq => by have := HLT.out; omega
    · have HCL : Hid (clampW x.wait = x.wait) := Lib.hid (by unfold clampW; rw [if_neg d1, if_neg d2])
      go_wp2_with (first | (refine wpList_store_blk1 rfl 24 _ _ rfl w.heap.size 21 46 _ (.slice a1 n1 k1) rfl (by go_simp) HX1.out (by rw [GA.c_len]; omega) adSz rfl ?_; intro W2 hb2 hm2; have HX2 := Lib.hid (x.c_set21 _ _ ▸ hb2.out); have HM2 := hm2; have y1 : W2.cell? ⟨w.heap.size, 1, none⟩ = some (.int .i64 x.wait) := HX2.out.cell rfl; clear hb2 hm2) | (refine wpList_load_blk rfl _ _ rfl w.heap.size 0 rfl 46 (x.c (.slice a1 n1 k1)) (x.c (.slice a1 n1 k1)) _ HX2.out (List.take_of_length_le (Nat.le_refl _)) Tryz.underlying46 rfl (GA.c_sz _ _) ?_) | (refine wpList_store_blk rfl _ _ _ rfl (w.heap.size + 1) 0 46 [.int .i64 0, .int .i64 0, .int .i64 0, .int .i64 0, .bool false, .int .u8 0, .int .u8 0, .int .u8 0, .int .u8 0, .int .u8 0, .int .u8 0, .int .u8 0, .int .u8 0, .int .u8 0, .int .u8 0, .int .u8 0, .int .u8 0, .int .u8 0, .int .u8 0, .int .u8 0, .int .u8 0, .slice none 0 0, .bool false] (x.c (.slice a1 n1 k1)) rfl rfl (HZ1.out.keep HM2.out fun e => by omega) (by rw [GA.c_len]; simp) (GA.c_sz _ _) (GA.c_one _ _ rfl) ?_; intro W5 HZ5 HM5))
      have hcut : x.cut.c (.slice a1 n1 k1) = x.c (.slice a1 n1 k1) := by unfold GA.cut; rw [HCL.out]; rfl
      refine bodyPost_ret (results_blk rfl _ (w.heap.size + 1) 46 (x.c (.slice a1 n1 k1)) rfl (splice_all HZ5.out (by rw [GA.c_len]; rfl)) Tryz.underlying46 rfl (GA.c_sz _ _)) rfl ?_
      refine ⟨a1, n1, k1, by rw [hcut], ?_, (HM1.out.trans HM2.out fun q hq => .inr (by omega)).trans HM5.out fun q hq => .inr (by omega)⟩
      have hr := (HR1.out.keepT HM2.out (HX1.out.notA (by decide)))
      exact (hr.keepT HM5.out (((HZ1.out.keep HM2.out fun e => by omega)).notA (by decide))).mono fun q hq => by have := HLT.out; omega
set_option maxRecDepth 100000 in
set_option maxHeartbeats 1000000 in
theorem cNext0 {w : World} {c b : Nat} {T : Ad → Option Int} (h : ClkAt w c b T []) :
    Calls Tryz.prog 51 #[.pointer (some ⟨c, 0, none⟩)] w fun e w' => (∃ s, e = .returned (.tuple #[.string s, .int .i64 0, .bool false])) ∧ Mod (fun _ => False) w w' := by
  have c0 : w.cell? ⟨c, 0, none⟩ = some (.map (some b)) := h.blk.cell rfl
  have K : Keyed Tryz.prog 9 := string_keyed Tryz.underlying9
  obtain ⟨q1, q2, q3⟩ := enm_fit (L := [])
  obtain ⟨ml, hown, hperm⟩ := h.mp.owns (H := Unit) (P := Tryz.prog) (kt := 9) Tryz.underlying9 q1 q2 (by rw [q3]; unfold maxLen; simp)
  obtain ⟨ml', hml, hap, _⟩ := hown.entries K
  obtain rfl : ml = ml' := by injection hml
  have HH := Lib.hid h
  have HP := Lib.hid hperm
  have HAP := Lib.hid hap
  have HOWN := Lib.hid hown
  have hbl := hown.lt
  clear hperm hap hml h hown q1 q2 q3
  go_enter Tryz.func51, Tryz.ntmps51
  go_wp2_with (first
    | (at_range; refine wpList_range_own _ rfl _ 130 rfl 9 3 K Tryz.underlying130 Ri b _ _ rfl HOWN.out ?_; intro w0 hrg0 hg0 hs0)
    | go_in)
  go_frame
  have HM0 : Hid (Mod (fun _ => False) w w0) := Lib.hid ((Mod.ofGrown hg0).mono fun k hk => by cases hk)
  go_loopw [5, 6] (fun v5 v6 wr => v5 = .string ⟨#[]⟩ ∧ v6 = .bool false ∧ ∃ (left : Lit → Bool) (cnt : Nat), wr.ranges Tryz.prog 9 Ri b w.heap.size (enm ([] : List (Ad × Int))).length (.map ml) left cnt ∧ Mod (fun _ => False) w wr)
    (fun _ _ wr => wr.rangeLeft b w.heap.size)
  case atStart => exact ⟨rfl, rfl, _, _, hrg0, HM0.out⟩
  case round =>
    obtain ⟨rfl, rfl, left, cnt, hrg, hmw⟩ := hrel
    have HMW := Lib.hid hmw
    have HRG := Lib.hid hrg
    clear hmw hrg HM0
    go_wp2_with (first
      | (at_next; refine wpList_next_ranges _ rfl _ rfl 9 K Ri (fun x : List UInt8 => Value.string ⟨x.toArray⟩) (Value.int .i64) (fun key kl hk => by obtain ⟨x, hx, _⟩ := Maps.keyOf_str Tryz.underlying9 hk; exact ⟨x, hx⟩) (fun v y hv => by obtain ⟨t, ht, _⟩ := Ri_int hv; exact ⟨t, ht⟩) b w.heap.size _ _ _ _ rfl HRG.out ?_ ?_)
      | go_in)
    · intro hc0 hl0
      have HC1 := Lib.hid (HH.out.keep0 HMW.out)
      have hS : wr.drew.cell? ⟨c, 0, none⟩ = some (.map (some b)) ∧ Ms wr.drew b (enm []) := ⟨HC1.out.blk.cell rfl, HC1.out.mp.keep (Mod.refl (fun _ => False) wr).drew fun f => f⟩
      have HL1 : Hid (∀ {o : Oper} {ev : Operand → Value} {x' i : Operand}, o.op = .lookup 130 x' i false → ev x' = .map (some b) → ev i = .string ⟨#[]⟩ → ∀ w', Ms w' b (enm []) → (execOp ev o).run Tryz.prog w' = .ok (.value (.int .i64 0)) w') := Lib.hid fun ho hx' hi w' hm => by
        have := exec_lookup_ms (P := Tryz.prog) (k := []) Tryz.underlying130 Tryz.underlying9 zeroI ho hx' hi hm
        exact this
      clear hc0 hl0
      go_wp2_with fail
      refine wp_region_plan [] [(0, 0), (1, 0), (2, 0), (3, 0), (4, 1), (5, 0), (6, 1), (7, 0), (8, 0), (9, 0), (10, 0)] (fun w' : World => w'.cell? ⟨c, 0, none⟩ = some (.map (some b)) ∧ Ms w' b (enm [])) (by kernel_rfl) (by kernel_rfl) (fun d v c a w h => by first | (cases d <;> exact h) | exact HP d v c a w h) ?_
      repeat ((first | refine plan_skip rfl rfl ?_ | refine plan_pass2 rfl rfl ?_ | refine plan_pass3 rfl rfl ?_ | (refine plan_take (v := ?_) rfl rfl ?_ ?_; rotate_left; focus (intro w0; go_simp; try with_reducible rfl)) | (refine plan_held (v := ?_) rfl rfl hS ?_ ?_; rotate_left; focus (intro w0 hSw; (try dsimp only at hSw); go_split_ands; go_simp; try with_reducible rfl)) | refine plan_skip1 rfl rfl hS ?_); simp only [List.getElem_toArray, List.getElem_cons_succ, List.getElem_cons_zero, Act.put, List.setIfInBounds_toArray, List.set_cons_zero, List.set_cons_succ])
      (refine plan_held (v := .int .i64 0) rfl rfl hS (fun w0 h0 => HL1.out rfl rfl rfl w0 h0.2) ?_; try simp only [List.getElem_toArray, List.getElem_cons_succ, List.getElem_cons_zero, Act.put, List.setIfInBounds_toArray, List.set_cons_zero, List.set_cons_succ])
      repeat ((first | refine plan_skip rfl rfl ?_ | refine plan_pass2 rfl rfl ?_ | refine plan_pass3 rfl rfl ?_ | (refine plan_take (v := ?_) rfl rfl ?_ ?_; rotate_left; focus (intro w0; go_simp; try with_reducible rfl)) | (refine plan_held (v := ?_) rfl rfl hS ?_ ?_; rotate_left; focus (intro w0 hSw; (try dsimp only at hSw); go_split_ands; go_simp; try with_reducible rfl)) | refine plan_skip1 rfl rfl hS ?_); simp only [List.getElem_toArray, List.getElem_cons_succ, List.getElem_cons_zero, Act.put, List.setIfInBounds_toArray, List.set_cons_zero, List.set_cons_succ])
      refine plan_nil ?_
      go_wp2
      go_ret3
      exact ⟨⟨_, rfl⟩, HMW.out.drew⟩
    · intro x t kl yd yp w1 cnt1 hkey hlx hv hat hrg1 hlt hg1 hs1 hen
      obtain ⟨x', ex, rfl, _⟩ := Maps.keyOf_str Tryz.underlying9 hkey
      obtain rfl : x = x' := encStr_inj ex
      obtain ⟨t', et, ey⟩ := Ri_int hv
      obtain rfl : t = t' := by injection et
      injection ey with ey _
      subst ey
      obtain ⟨p, hpL, hpk, hpt⟩ := enS_mem HP.out HAP.out hat
      cases hpL
section
variable {N : Nat} (SO : SortOk N) {w : World} {p c b : Nat} {G : Gs} (h : GAt w p c b G) (ok : GOk G) (now : Int) (hN : ∀ L : List (Ad × Int), (∀ a1 n1 k1 a2 n2 k2, GIn w p c b G a1 n1 k1 a2 n2 k2 L → (dueL (nowG G now) L).length ≤ N))
include SO h ok hN
set_option maxRecDepth 100000 in
set_option maxHeartbeats 1000000 in
theorem gNext0 (hx : (settleG G now).ex = false) (hT : ∀ a, (settleG G now).T a = none) : Calls Tryz.prog 16 #[.pointer (some ⟨p, 0, none⟩), .int .i64 now] w fun e w' => e = .returned (.tuple #[.int .i64 0, .bool false]) ∧ GAt w' p c b (settleG G now) ∧ Mod (fun k => k = p ∨ k = b) w w' := by
  obtain ⟨a1, n1, k1, a2, n2, k2, L, h⟩ := h
  have hn := hN L _ _ _ _ _ _ h
  have HH := Lib.hid h
  have OK := Lib.hid ok
  have HSO := Lib.hid SO
  have HN := Lib.hid hn
  clear h hN ok SO hn
  obtain ⟨G1, hG1⟩ : ∃ G1, G1 = settleG G now := ⟨_, rfl⟩
  have HG1 := Lib.hid hG1
  rw [← hG1] at hx hT ⊢
  have HT := Lib.hid hT
  have HX := Lib.hid hx
  clear hG1 hT hx
  go_enter Tryz.func16, Tryz.ntmps16
  go_wp2_with fail
  refine (gsettle HSO.out HH.out OK.out now HN.out).mono ?_
  rw [← HG1.out]
  rintro e W1 ⟨rfl, ⟨b1, m1, d1, b2, m2, d2, L1, hg1⟩, hm1⟩
  have HI1 := Lib.hid hg1
  have HM1 := Lib.hid hm1
  obtain rfl : L1 = [] := List.eq_nil_of_length_eq_zero (by have := hg1.clk.tl.len (D := []) fun a ha => absurd (HT.out a) ha; simpa using this)
  have x4 : W1.cell? ⟨p, 6, none⟩ = some (.pointer (some ⟨c, 0, none⟩)) := hg1.blk.cell rfl
  clear hg1 hm1
  go_wp2_with fail
  refine (cNext0 HI1.out.clk).mono ?_
  rintro e W2 ⟨⟨s, rfl⟩, hm2⟩
  have HI2 := Lib.hid (HI1.out.keep0 hm2)
  have HM2 : Hid (Mod (fun k => k = p ∨ k = b) w W2) := Lib.hid (HM1.out.trans hm2 fun _ f => f.elim)
  have x2 : W2.cell? ⟨p, 2, none⟩ = some (.bool false) := by have := HI2.out.blk.cell (j := 2) (u := .bool G1.ex) rfl; rwa [HX.out] at this
  clear hm2
  go_wp2
  go_ret2
  exact ⟨rfl, ⟨b1, m1, d1, b2, m2, d2, [], HI2.out⟩, HM2.out⟩
end
end Go.Proofs.YtcccdlmngddalaaGreat
namespace Go.Proofs.YtcccdlmngddalaaGreat
open Go.RowKit Go.Sort
set_option linter.unusedVariables false
set_option linter.unusedSimpArgs false
abbrev zAct : List Value := [.int .i64 0, .int .i64 0, .int .i64 0, .int .i64 0, .bool false, .int .u8 0, .int .u8 0, .int .u8 0, .int .u8 0, .int .u8 0, .int .u8 0, .int .u8 0, .int .u8 0, .int .u8 0, .int .u8 0, .int .u8 0, .int .u8 0, .int .u8 0, .int .u8 0, .int .u8 0, .int .u8 0, .slice none 0 0, .bool false]
theorem GA.c_rec (x : GA) (v : Value) : ((x.c v).drop 3).take (recC x.rk x.g v).length = recC x.rk x.g v := by
  show (recC x.rk x.g v ++ [Value.bool x.all]).take _ = _
  rw [List.take_left']
  rfl
theorem EG.hN {G : Gs} {M n : Int} (h : EG G M n) (now : Int) {w : World} {p c b : Nat} : ∀ L : List (Ad × Int), (∀ a1 n1 k1 a2 n2 k2, GIn w p c b G a1 n1 k1 a2 n2 k2 L → (dueL (nowG G now) L).length ≤ 49) := fun L a1 n1 k1 a2 n2 k2 hg => Nat.le_trans (h.due hg.clk.tl _) (by decide)
/-- a hearing of the law's -/
theorem hear_e {w : World} {p c b : Nat} {G : Gs} {C m0 : Int} (hg : GAt w p c b G) (h : EG G C m0) (hC : C ≤ 3000000) (m : Int) (hm : m0 ≤ m) (hm1 : m ≤ 1000000000000) (t : Tn) (ht : t.ok) (htC : t.member ≤ C) (older k : Int) (g : Ad) {ad : Option Addr} {n cap : Nat} {l : List Ad} (hr : RT w (.slice ad n cap) l) (hl : l.length ≤ 5) :
    Calls Tryz.prog 9 #[.pointer (some ⟨p, 0, none⟩), .int .i64 m, .agg t.c.toArray, .int .i64 older, .agg (recC k g (.slice ad n cap)).toArray] w fun e w' => RetH (hearG G m t.member older k l).2 e ∧ GAt w' p c b (hearG G m t.member older k l).1 ∧ EG (hearG G m t.member older k l).1 C m ∧ Mod (fun k => k = p ∨ k = b) w w' := by
  have hM := Tn.member_bd ht
  have hE := h.hear (M := t.member) hm hm1 (by omega) older k l
  have hok := h.ok (by omega) (by have := h.now; omega)
  have hs := h.sum
  obtain ⟨a1, n1, k1, a2, n2, k2, L, hg⟩ := hg
  refine (gHear sortOk hg hok m (Nat.le_trans (h.due hg.clk.tl _) (by decide)) t ht older k g hr (by omega) (by omega)).mono ?_
  rintro e w' ⟨h1, h2, h3⟩
  exact ⟨h1, h2, hE, h3⟩
set_option maxRecDepth 100000 in
set_option maxHeartbeats 8000000 in
theorem ends_walk (v6 : Bool) (t : Tn) (ad : Option Addr) (n cap : Nat) (xs : List GA) (sv : Nat → Value) (w : World) (hA : ActsAt w (.slice ad n cap) xs sv) : Calls Tryz.prog 4 #[.bool v6, .agg t.c.toArray, .slice ad n cap] w fun e w' => e = .returned (.bool true) ∧ Mod (fun _ => False) w w' := by
  have hn : n = xs.length ∧ n ≤ cap ∧ cap ≤ maxLen := by
    obtain ⟨⟨a', c', e, h1, h2, _⟩, _⟩ := hA
    injection e with _ e2 e3
    omega
  have HN := Lib.hid hn
  have hnm : n ≤ 9223372036854775807 := by have := hn.2; unfold maxLen at this; omega
  have HA := Lib.hid hA
  have HT0 := Lib.hid (Blk.new w 32 t.c)
  have HM0 : Hid (Mod (fun _ => False) w (w.alloc (.cells t.c.toArray 32 (0, 0)))) := Lib.hid ((Mod.refl _ _).alloc _)
  have HLV := Lib.hid lives17_any
  clear hn hA
  go_enter Tryz.func4, Tryz.ntmps4
  go_wp2_with (refine wpList_load_blk rfl _ _ rfl w.heap.size 0 rfl 32 t.c t.c _ HT0.out rfl Tryz.underlying32 rfl tuSz ?_)
  refine (refGood t _).mono ?_
  rintro e W1 ⟨x, rfl, hx, hm1⟩
  have HT1 := Lib.hid (HT0.out.keep hm1 fun f => f)
  have HM1 : Hid (Mod (fun _ => False) w W1) := Lib.hid (HM0.out.trans hm1 fun _ f => f.elim)
  have HX := Lib.hid hx
  clear hx hm1
  cases x with
  | false =>
    go_wp2_with fail
    refine (HLV.out _).mono ?_
    rintro e W2 ⟨rfl, hm⟩
    go_wp2
    go_ret
    exact ⟨rfl, HM1.out.trans hm fun _ f => f.elim⟩
  | true =>
    have HTO : Hid t.ok := Lib.hid (HX.out rfl)
    clear HX
    go_wp2_with fail
    refine (gNew v6 _).mono ?_
    rintro e W2 ⟨p, c, b, rfl, hg2, hp, hb, hc, hm2⟩
    have HG2 := Lib.hid hg2
    have HM2 : Hid (Mod (fun _ => False) w W2) := Lib.hid (HM1.out.trans hm2 fun _ f => f.elim)
    have HT2 := Lib.hid (HT1.out.keep hm2 fun f => f)
    have hs1 := HM1.out.size
    have htl := HT1.out.lt
    have HE2 := Lib.hid (EG.g0 v6 t.member (by have := Tn.member_bd HTO.out; omega))
    have HNE : Hid (w.heap.size ≤ p ∧ w.heap.size ≤ b ∧ p ≠ w.heap.size ∧ b ≠ w.heap.size) := Lib.hid ⟨by omega, by omega, by omega, by omega⟩
    clear hg2 hm2 hp hb hc hs1 htl
    go_wp2_with fail
    go_loopw [8, 9] (fun v8 v9 wr => ∃ (j : Nat) (m : Int) (G : Gs), j ≤ n ∧ j ≤ 16 ∧ v8 = .int .i64 m ∧ v9 = .int .i64 (j : Int) ∧ 0 ≤ m ∧ m ≤ (j : Int) * 1000000 ∧ GAt wr p c b G ∧ EG G t.member m ∧ Blk wr w.heap.size 32 t.c ∧ Mod (fun _ => False) w wr) (fun _ v9 _ => 16 - (intOf v9).toNat)
    case atStart => exact ⟨0, 0, G0 v6, by omega, by omega, rfl, rfl, by omega, by omega, HG2.out, HE2.out, HT2.out, HM2.out⟩
    case round =>
      clear HG2 HE2 HT2 HM2 HM0 HM1 HT0 HT1
      obtain ⟨j, m, G, hj, hj16, rfl, rfl, hm0, hmj, hg, he, hbt, hmw⟩ := hrel
      have HG := Lib.hid hg
      have HE := Lib.hid he
      have HBT := Lib.hid hbt
      have HMW := Lib.hid hmw
      clear hg he hbt hmw
      go_upto_region 5 with fail
      go_cut [26] from 19 to 27 (fun v wx => ∃ bb : Bool, v = .bool bb ∧ (bb = true ↔ (j < n ∧ j < 16)) ∧ wx = wr)
      case first =>
        by_cases hin : j < n
        · have hin1 : (j : Int) < (n : Int) := by omega
          by_cases hi3 : j < 16
          · have hi31 : (j : Int) < 16 := by omega
            go_wp2_with fail
            go_meet
            exact ⟨true, rfl, ⟨fun _ => ⟨hin, hi3⟩, fun _ => rfl⟩, rfl⟩
          · have hi31 : ¬ (j : Int) < 16 := by omega
            go_wp2_with fail
            go_meet
            exact ⟨false, rfl, ⟨fun h => Bool.noConfusion h, fun h => absurd h.2 hi3⟩, rfl⟩
        · have hin1 : ¬ (j : Int) < (n : Int) := by omega
          go_wp2_with fail
          go_meet
          exact ⟨false, rfl, ⟨fun h => Bool.noConfusion h, fun h => absurd h.1 hin⟩, rfl⟩
      case rest =>
      obtain ⟨bb, rfl, hbb, hwc⟩ := hcut
      rw [hwc]
      have HBB := Lib.hid hbb
      clear hbb hwc
      cases bb with
      | true =>
        have hlt := HBB.out.1 rfl
        have hjl : j < xs.length := by rw [← HN.out.1]; exact hlt.1
        obtain ⟨q, hq⟩ : ∃ q, xs[j]? = some q := ⟨_, List.getElem?_eq_getElem hjl⟩
        obtain ⟨⟨ad', cap', e, hc1, hc2, hf⟩, hrd⟩ := HA.out
        obtain ⟨g, o, rfl, hra⟩ := hf (by omega)
        simp only [Value.slice.injEq] at e
        obtain ⟨rfl, -, rfl⟩ := e
        have HXR := Lib.hid (keepRange HMW.out (hra j q hq))
        have hrq := (hrd j q hq).keep0 HMW.out
        obtain ⟨u, hu⟩ : ∃ u, u = sv j := ⟨_, rfl⟩
        rw [← hu] at HXR hrq
        have hus : ∃ a n' c', u = .slice a n' c' := by
          obtain ⟨a, c', e, _⟩ := hrq
          exact ⟨a, _, c', e⟩
        obtain ⟨au, nu, cu, rfl⟩ := hus
        have HRQ := Lib.hid hrq
        have HQS := Lib.hid (q.c_sz (.slice au nu cu))
        obtain ⟨X, hX⟩ : ∃ X, X = q.cut := ⟨_, rfl⟩
        have HXW : Hid (-1000000 ≤ X.wait ∧ X.wait ≤ 1000000 ∧ X.src.length ≤ 5) := Lib.hid (by
          rw [hX]
          refine ⟨(clampW_bd q.wait).1, (clampW_bd q.wait).2, ?_⟩
          show (q.src.take 5).length ≤ 5
          rw [List.length_take]
          omega)
        have HXQ := Lib.hid hX
        clear hu hq hra hrd hf hc1 hc2 hrq hX hjl
        go_wp2_with (refine wpList_load_midG rfl _ _ rfl g (o + j * 23) rfl (q.c (.slice au nu cu)) _ HXR.out Tryz.underlying46 rfl HQS.out ?_)
        refine (act_any q HRQ.out).mono ?_
        rw [← HXQ.out]
        rintro e W3 ⟨a3, n3, k3, rfl, hr3, hm3⟩
        have HR3 := Lib.hid (hr3.rt.keep0 ((Mod.refl _ W3).alloc (.cells zAct.toArray 46 (0, 0))))
        have HG3 := Lib.hid ((HG.out.keep0 hm3).keep0 ((Mod.refl _ W3).alloc (.cells zAct.toArray 46 (0, 0))))
        have HT3 := Lib.hid ((HBT.out.keep hm3 fun f => f).alloc (.cells zAct.toArray 46 (0, 0)))
        have HM3 : Hid (Mod (fun _ => False) w (W3.alloc (.cells zAct.toArray 46 (0, 0)))) := Lib.hid ((HMW.out.trans hm3 fun _ f => f.elim).alloc _)
        have HZ3 := Lib.hid (Blk.new W3 46 zAct)
        have HS3 : Hid (w.heap.size ≤ W3.heap.size ∧ p < W3.heap.size ∧ b < W3.heap.size ∧ w.heap.size < W3.heap.size) := Lib.hid (by
          have h1 := (HMW.out.trans hm3 fun _ f => f.elim).size
          obtain ⟨_, _, _, _, _, _, _, h2⟩ := HG.out.keep0 hm3
          exact ⟨h1, h2.blk.lt, h2.clk.mp.lt, (HBT.out.keep hm3 fun f => f).lt⟩)
        clear hr3 hm3 HG HBT HMW
        go_upto_if 36 with (refine wpList_store_blk rfl _ _ _ rfl W3.heap.size 0 46 zAct (X.c (.slice a3 n3 k3)) rfl rfl HZ3.out (by rw [GA.c_len]; simp) (GA.c_sz _ _) (GA.c_one _ _ rfl) ?_; intro W4 hz4 hm4; have HX4 : Hid (Blk W4 W3.heap.size 46 (X.c (.slice a3 n3 k3))) := Lib.hid (splice_all hz4.out (by rw [GA.c_len]; rfl)); have HM4 := hm4; have y1 : W4.cell? ⟨W3.heap.size, 1, none⟩ = some (.int .i64 X.wait) := HX4.out.cell rfl; have y2 : W4.cell? ⟨W3.heap.size, 2, none⟩ = some (.int .i64 X.older) := HX4.out.cell rfl; clear hz4 hm4)
        have HW4 : Hid (w.heap.size ≠ W3.heap.size ∧ p ≠ W3.heap.size ∧ b ≠ W3.heap.size ∧ w.heap.size ≤ W3.heap.size) := Lib.hid (by have := HS3.out; omega)
        have hq : NotA (W3.alloc (.cells zAct.toArray 46 (0, 0))) (fun k => k = W3.heap.size) := HZ3.out.notA (by decide)
        have HR4 := Lib.hid (HR3.out.keepT HM4.out hq)
        have HG4 : Hid (GAt W4 p c b G) := Lib.hid (by
          obtain ⟨a1, n1, k1, a2, n2, k2, L, h⟩ := HG3.out
          exact ⟨a1, n1, k1, a2, n2, k2, L, h.blk.keep HM4.out HW4.out.2.1, h.on.keepT HM4.out hq, h.off.keepT HM4.out hq, h.clk.keep HM4.out (fun e => h.clk.blk.neT HZ3.out (by decide) e) HW4.out.2.2.1⟩)
        have HT4 := Lib.hid (HT3.out.keep HM4.out HW4.out.1)
        have HM5 : Hid (Mod (fun _ => False) w W4) := Lib.hid (HM3.out.trans HM4.out fun k hk => .inr (by have := HW4.out; omega))
        clear HR3 HG3 HT3 HM3 HZ3 HM4 hq
        go_cut [8] from 37 to 41 (fun v wx => ∃ m' : Int, m ≤ m' ∧ m' ≤ m + 1000000 ∧ v = .int .i64 m' ∧ wx = W4)
        case first =>
          by_cases hw : 0 < X.wait
          · have hxw1 := HXW.out.1
            have hxw2 := HXW.out.2.1
            go_wp2_with fail
            go_meet
            exact ⟨m + X.wait, by omega, by have := HXW.out; omega, rfl, rfl⟩
          · go_wp2_with fail
            go_meet
            exact ⟨m, by omega, by omega, rfl, rfl⟩
        case rest =>
          obtain ⟨m', hm1, hm2, rfl, hwx⟩ := hcut
          rw [hwx]
          clear hwx y1
          have HRC : Hid ((recC X.rk X.g (.slice a3 n3 k3)).length = 19) := Lib.hid (recC_len _ _ _)
          go_wp2_with (first
            | (refine wpList_load_blk rfl _ _ rfl w.heap.size 0 rfl 32 t.c t.c _ HT4.out rfl Tryz.underlying32 rfl tuSz ?_)
            | (refine wpList_load_blk rfl _ _ rfl W3.heap.size 3 rfl 46 (X.c (.slice a3 n3 k3)) (recC X.rk X.g (.slice a3 n3 k3)) _ HX4.out (GA.c_rec _ _) Tryz.underlying38 rfl (recC_sz _ _ _) ?_))
          refine (hear_e HG4.out HE.out (by have := Tn.member_bd HTO.out; omega) m' hm1 (by omega) t HTO.out (Int.le_refl _) X.older X.rk X.g HR4.out HXW.out.2.2).mono ?_
          rintro e W6 ⟨⟨y1, y2', y3, y4, y5, y6, y7, y8, y9, z1, z2, z3, z4, z5, z6, z7, z8, z9, rfl⟩, hg6, he6, hm6⟩
          have HG6 := Lib.hid hg6
          have HE6 := Lib.hid he6
          have HT6 := Lib.hid (HT4.out.keep hm6 fun e => e.elim (fun e => HNE.out.2.2.1 e.symm) fun e => HNE.out.2.2.2 e.symm)
          have HM6 : Hid (Mod (fun _ => False) w W6) := Lib.hid (HM5.out.trans hm6 fun k hk => .inr (by have := HNE.out; omega))
          clear hg6 he6 hm6 HG4 HT4 HM5 HE HR4
          go_wp2
          go_roundw
          case rel => exact ⟨j + 1, m', _, by omega, by omega, rfl, by go_num, by omega, by omega, HG6.out, HE6.out, HT6.out, HM6.out⟩
          case measure => simp [intOf]; omega
      | false =>
        have hMb := Tn.member_bd HTO.out
        have hmb : m ≤ 16000000 := by omega
        have HEN := Lib.hid (HE.out.gone (by omega) (by omega))
        have HE1 := Lib.hid (HE.out.settle (m := m + t.member) (by omega) (by omega) (by omega))
        have HOK := Lib.hid (HE.out.ok (by omega) (by omega))
        have HOK1 := Lib.hid (HE1.out.ok (by omega) (by omega))
        have HEN1 := Lib.hid (HE1.out.gone (by omega) (by omega))
        go_wp2_with (refine wpList_load_blk rfl _ _ rfl w.heap.size 0 rfl 32 t.c t.c _ HBT.out rfl Tryz.underlying32 rfl tuSz ?_)
        refine (refMember t HTO.out _).mono ?_
        rintro e W3 ⟨rfl, hm3⟩
        have HG3 := Lib.hid (HG.out.keep0 hm3)
        have HT3 := Lib.hid (HBT.out.keep hm3 fun f => f)
        have HM3 : Hid (Mod (fun _ => False) w W3) := Lib.hid (HMW.out.trans hm3 fun _ f => f.elim)
        clear hm3 HG HBT HMW
        go_wp2_with fail
        refine (gNext0 sortOk HG3.out HOK.out (m + t.member) (HE.out.hN _) HEN.out.1 HEN.out.2.2).mono ?_
        rintro e W4 ⟨rfl, hg4, hm4⟩
        have HG4 := Lib.hid hg4
        have HT4 := Lib.hid (HT3.out.keep hm4 fun e => e.elim (fun e => HNE.out.2.2.1 e.symm) fun e => HNE.out.2.2.2 e.symm)
        have HM4 : Hid (Mod (fun _ => False) w W4) := Lib.hid (HM3.out.trans hm4 fun k hk => .inr (by have := HNE.out; omega))
        clear hg4 hm4 HG3 HT3 HM3
        go_wp2_with (refine wpList_load_blk rfl _ _ rfl w.heap.size 0 rfl 32 t.c t.c _ HT4.out rfl Tryz.underlying32 rfl tuSz ?_)
        refine (refMember t HTO.out _).mono ?_
        rintro e W5 ⟨rfl, hm5⟩
        have HG5 := Lib.hid (HG4.out.keep0 hm5)
        have HM5 : Hid (Mod (fun _ => False) w W5) := Lib.hid (HM4.out.trans hm5 fun _ f => f.elim)
        clear hm5 HG4 HT4 HM4
        go_wp2_with fail
        refine (gState sortOk HG5.out HOK1.out (m + t.member) (HE1.out.hN _)).mono ?_
        have hex : (settleG (settleG G (m + t.member)) (m + t.member)).ex = false := by
          show ((settleG G (m + t.member)).ex && _) = false
          rw [HEN.out.1]
          rfl
        have hon : (settleG (settleG G (m + t.member)) (m + t.member)).on = [] := by
          show (settleG G (m + t.member)).on.filter _ = []
          rw [HEN.out.2.1]
          rfl
        rw [hex, hon]
        rintro e W6 ⟨f1, f2, f3, f4, f5, f6, rfl, q1, q2, hg6, hm6⟩
        obtain rfl : f2 = 0 := q1.len.1
        have HM6 : Hid (Mod (fun _ => False) w W6) := Lib.hid (HM5.out.trans hm6 fun k hk => .inr (by have := HNE.out; omega))
        clear hg6 hm6 q1 q2 hex hon
        go_wp2_with fail
        refine (refGone f1 f3 _ _).mono ?_
        rintro e W7 ⟨rfl, hm7⟩
        have HM7 : Hid (Mod (fun _ => False) w W7) := Lib.hid (HM6.out.trans hm7 fun _ f => f.elim)
        clear hm7
        go_wp2_with fail
        refine (HLV.out _).mono ?_
        rintro e W8 ⟨rfl, hm8⟩
        have HM8 : Hid (Mod (fun _ => False) w W8) := Lib.hid (HM7.out.trans hm8 fun _ f => f.elim)
        clear hm8
        go_wp2
        go_ret
        exact ⟨rfl, HM8.out⟩
end Go.Proofs.YtcccdlmngddalaaGreat
