/- .. order2, median, choosePivot, partialInsertionSort. (Printed by gen_sort.py.) -/
import Derived.Test.YtcccdlmngddalaaGreatGrSa
namespace Go.Proofs.YtcccdlmngddalaaGreat
open Go.RowKit
set_option linter.unusedVariables false
set_option linter.unusedSimpArgs false
theorem intSz : (Tryz.prog.info? 3).map (·.size) = some 1 := by kernel_rfl
theorem Srd.aside {g n cap : Nat} {ss0 : List ByteArray} {w0 W W' : World} {q : Nat} (h : Srd g n cap ss0 w0 W) (hm : Mod (fun k => k = q) W W') (hq : q ≠ g) (hq0 : w0.heap.size ≤ q) : Srd g n cap ss0 w0 W' := by
  obtain ⟨ss, h1, h2, h3⟩ := h
  have h2' : Row W (fun k => k = g) 9 1 (.slice (some ⟨g, 0, none⟩) n cap) n (ss.map Value.string) := ⟨h2.1, fun k hk => by
    have e' : some g = some k := hk
    injection e' with e'
    exact e'.symm⟩
  exact ⟨ss, h1, (h2'.keep hm fun k hk e => hq (by omega)).mono fun _ _ => trivial, h3.trans hm fun k hk => .inr (by omega)⟩
section
variable {c g n cap : Nat} {ss0 : List ByteArray} {w0 : World}
set_option maxRecDepth 100000 in
set_option maxHeartbeats 4000000 in
theorem o2S (HC : Hid (SCx c g n cap ss0 w0)) {W : World} (hS : Srd g n cap ss0 w0 W) (a b q : Nat) (k : Int) (ha : a < n) (hb : b < n) (hB : Blk W q 3 [.int .i64 k]) (hk : 0 ≤ k ∧ k ≤ 1000) (hq : q ≠ g) (hq0 : w0.heap.size ≤ q) :
    Calls Tryz.prog 202 #[.slice (some ⟨g, 0, none⟩) n cap, .int .i64 (a : Int), .int .i64 (b : Int), .pointer (some ⟨q, 0, none⟩), .func (.func 102) #[.pointer (some ⟨c, 0, none⟩)] #[]] W fun e W' => ∃ x y : Nat, (x = a ∧ y = b ∨ x = b ∧ y = a) ∧ e = .returned (.tuple #[.int .i64 (x : Int), .int .i64 (y : Int)]) ∧ Srd g n cap ss0 w0 W' ∧ ∃ k' : Int, 0 ≤ k' ∧ k' ≤ k + 1 ∧ Blk W' q 3 [.int .i64 k'] := by
  have hn4 := HC.out.n4
  have HB := Lib.hid hB
  have HQ := Lib.hid (And.intro hq hq0)
  have qa : (a : Int) < (n : Int) := by omega
  have qb : (b : Int) < (n : Int) := by omega
  have ek : IntKind.i64.wrap (k + 1) = k + 1 := IntWalk.i64_in _ (by omega)
  have hs := hS
  clear hS hB hq hq0
  go_enter Tryz.func202, Tryz.ntmps202
  go_wp2_with fail
  obtain ⟨ssA, hpA, hrA, hmA⟩ := hs
  obtain ⟨xA, hxA⟩ : ∃ x, ssA[b]? = some x := ⟨_, List.getElem?_eq_getElem (by rw [Srt.len hrA]; omega)⟩
  obtain ⟨yA, hyA⟩ : ∃ x, ssA[a]? = some x := ⟨_, List.getElem?_eq_getElem (by rw [Srt.len hrA]; omega)⟩
  have hSA : W.drew.cell? ⟨g, b, none⟩ = some (.string xA) ∧ W.drew.cell? ⟨g, a, none⟩ = some (.string yA) := ⟨Srt.cell hrA hxA, Srt.cell hrA hyA⟩
  have hcA := HC.out.cmp W.drew xA yA hmA.drew (hpA.mem_iff.1 (List.mem_of_getElem? hxA)) (hpA.mem_iff.1 (List.mem_of_getElem? hyA))
  have HSA := Lib.hid (Srt.mk' hpA hrA hmA)
  have HCA := Lib.hid hcA
  clear hpA hrA hmA hxA hyA hcA
  refine wp_region_plan [9] [(0, 0), (1, 0), (2, 0), (3, 0), (4, 1), (5, 0), (6, 0), (7, 0), (8, 1), (9, 3), (10, 0)] (fun w' : World => w'.cell? ⟨g, b, none⟩ = some (.string xA) ∧ w'.cell? ⟨g, a, none⟩ = some (.string yA)) (by kernel_rfl) (by kernel_rfl) (fun d v c a w h => by first | (cases d <;> exact h) | exact HP d v c a w h) ?_
  repeat ((first | refine plan_skip rfl rfl ?_ | refine plan_pass2 rfl rfl ?_ | refine plan_pass3 rfl rfl ?_ | (refine plan_take (v := ?_) rfl rfl ?_ ?_; rotate_left; focus (intro w0; go_simp; try with_reducible rfl)) | (refine plan_held (v := ?_) rfl rfl hSA ?_ ?_; rotate_left; focus (intro w0 hSw; (try dsimp only at hSw); go_split_ands; go_simp; try with_reducible rfl)) | refine plan_skip1 rfl rfl hSA ?_); simp only [List.getElem_toArray, List.getElem_cons_succ, List.getElem_cons_zero, Act.put, List.setIfInBounds_toArray, List.set_cons_zero, List.set_cons_succ])
  (refine plan_end rfl rfl rfl fun K hK => ?_; (try simp only [List.getElem_toArray, List.getElem_cons_succ, List.getElem_cons_zero]))
  go_simp
  refine HCA.out.mono ?_
  rintro e W2 ⟨⟨rA, rfl⟩, hmA⟩
  have hs2 : Srd g n cap ss0 w0 W2 := HSA.out.calm ((Mod.refl _ _).drew.trans hmA fun _ f => f.elim)
  have HB2 : Hid (Blk W2 q 3 [.int .i64 k]) := Lib.hid (Blk.keep HB.out.drew hmA fun f => f)
  refine hK _ _ ?_
  clear hK K hSA HSA HCA hmA
  try simp only [List.getElem_toArray, List.getElem_cons_succ, List.getElem_cons_zero, Act.put, List.setIfInBounds_toArray, List.set_cons_zero, List.set_cons_succ]
  have HS2 := Lib.hid hs2
  clear hs2
  by_cases hr : rA < 0
  · have hd : decide (rA < 0) = true := decide_eq_true hr
    have c0 : W2.cell? ⟨q, 0, none⟩ = some (.int .i64 k) := HB2.out.cell rfl
    repeat ((first | refine plan_skip rfl rfl ?_ | refine plan_pass2 rfl rfl ?_ | refine plan_pass3 rfl rfl ?_ | (refine plan_take (v := ?_) rfl rfl ?_ ?_; rotate_left; focus (intro w0; go_simp; try with_reducible rfl))); simp only [List.getElem_toArray, List.getElem_cons_succ, List.getElem_cons_zero, Act.put, List.setIfInBounds_toArray, List.set_cons_zero, List.set_cons_succ])
    refine plan_nil ?_
    go_wp2_with (refine wpList_store_blk1 rfl 3 _ _ rfl q 0 3 _ (.int .i64 (k + 1)) rfl (by go_simp) HB2.out (by simp) intSz rfl ?_; intro W3 HB3 HM3)
    go_ret2
    exact ⟨b, a, .inr ⟨rfl, rfl⟩, rfl, HS2.out.aside HM3.out HQ.out.1 HQ.out.2, k + 1, by omega, by omega, HB3.out⟩
  · have hd : decide (rA < 0) = false := decide_eq_false hr
    repeat ((first | refine plan_skip rfl rfl ?_ | refine plan_pass2 rfl rfl ?_ | refine plan_pass3 rfl rfl ?_ | (refine plan_take (v := ?_) rfl rfl ?_ ?_; rotate_left; focus (intro w0; go_simp; try with_reducible rfl))); simp only [List.getElem_toArray, List.getElem_cons_succ, List.getElem_cons_zero, Act.put, List.setIfInBounds_toArray, List.set_cons_zero, List.set_cons_succ])
    refine plan_nil ?_
    go_wp2
    go_ret2
    exact ⟨a, b, .inl ⟨rfl, rfl⟩, rfl, HS2.out, k, by omega, by omega, HB2.out⟩
end
section
variable {c g n cap : Nat} {ss0 : List ByteArray} {w0 : World}
set_option maxRecDepth 100000 in
set_option maxHeartbeats 4000000 in
theorem medS (HC : Hid (SCx c g n cap ss0 w0)) {W : World} (hS : Srd g n cap ss0 w0 W) (a b d q : Nat) (k : Int) (ha : a < n) (hb : b < n) (hd : d < n) (hB : Blk W q 3 [.int .i64 k]) (hk : 0 ≤ k ∧ k ≤ 900) (hq : q ≠ g) (hq0 : w0.heap.size ≤ q) :
    Calls Tryz.prog 198 #[.slice (some ⟨g, 0, none⟩) n cap, .int .i64 (a : Int), .int .i64 (b : Int), .int .i64 (d : Int), .pointer (some ⟨q, 0, none⟩), .func (.func 102) #[.pointer (some ⟨c, 0, none⟩)] #[]] W fun e W' => ∃ x : Nat, (x = a ∨ x = b ∨ x = d) ∧ e = .returned (.int .i64 (x : Int)) ∧ Srd g n cap ss0 w0 W' ∧ ∃ k' : Int, 0 ≤ k' ∧ k' ≤ k + 3 ∧ Blk W' q 3 [.int .i64 k'] := by
  have HQ := Lib.hid (And.intro hq hq0)
  have HB := Lib.hid hB
  have HS := Lib.hid hS
  clear hS hB hq hq0
  go_enter Tryz.func198, Tryz.ntmps198
  go_wp2_with fail
  refine (o2S HC HS.out a b q k ha hb HB.out (by omega) HQ.out.1 HQ.out.2).mono ?_
  rintro e W1 ⟨x1, y1, hxy1, rfl, hs1, k1, hk1, hk1', hb1⟩
  have HS1 := Lib.hid hs1
  have HB1 := Lib.hid hb1
  have HXY1 := Lib.hid hxy1
  have hx1n : x1 < n ∧ y1 < n := by omega
  clear hs1 hb1 hxy1 HS HB
  go_wp2_with fail
  refine (o2S HC HS1.out y1 d q k1 hx1n.2 hd HB1.out (by omega) HQ.out.1 HQ.out.2).mono ?_
  rintro e W2 ⟨x2, y2, hxy2, rfl, hs2, k2, hk2, hk2', hb2⟩
  have HS2 := Lib.hid hs2
  have HB2 := Lib.hid hb2
  have HXY2 := Lib.hid hxy2
  have hx2n : x2 < n ∧ y2 < n := by omega
  clear hs2 hb2 hxy2 HS1 HB1
  go_wp2_with fail
  refine (o2S HC HS2.out x1 x2 q k2 hx1n.1 hx2n.1 HB2.out (by omega) HQ.out.1 HQ.out.2).mono ?_
  rintro e W3 ⟨x3, y3, hxy3, rfl, hs3, k3, hk3, hk3', hb3⟩
  have HS3 := Lib.hid hs3
  have HB3 := Lib.hid hb3
  have HXY3 := Lib.hid hxy3
  clear hs3 hb3 hxy3 HS2 HB2
  go_wp2
  go_ret
  exact ⟨y3, by have := HXY1.out; have := HXY2.out; have := HXY3.out; omega, rfl, HS3.out, k3, hk3, by omega, HB3.out⟩
end
section
variable {c g n cap : Nat} {ss0 : List ByteArray} {w0 : World}
set_option maxRecDepth 100000 in
set_option maxHeartbeats 4000000 in
theorem pivS (HC : Hid (SCx c g n cap ss0 w0)) {W : World} (hS : Srd g n cap ss0 w0 W) (a b : Nat) (hab : a + 12 < b) (hb : b ≤ n) :
    Calls Tryz.prog 180 #[.slice (some ⟨g, 0, none⟩) n cap, .int .i64 (a : Int), .int .i64 (b : Int), .func (.func 102) #[.pointer (some ⟨c, 0, none⟩)] #[]] W fun e W' => ∃ (x : Nat) (h : Int), a ≤ x ∧ x < b ∧ e = .returned (.tuple #[.int .i64 (x : Int), .int .i64 h]) ∧ Srd g n cap ss0 w0 W' := by
  have hn4 := HC.out.n4
  obtain ⟨L, hL⟩ : ∃ q : Nat, q = b - a := ⟨_, rfl⟩
  have H_L := Lib.hid hL
  have e_L : (b : Int) - (a : Int) = (L : Int) := by omega
  have w_L : IntKind.i64.wrap (L : Int) = (L : Int) := IntWalk.i64_in _ (by omega)
  clear hL
  obtain ⟨q4, hq4⟩ : ∃ q : Nat, q = L / 4 := ⟨_, rfl⟩
  have H_q4 := Lib.hid hq4
  have w_q4 : IntKind.i64.wrap (q4 : Int) = (q4 : Int) := IntWalk.i64_in _ (by omega)
  clear hq4
  have e_q4 : ((L : Nat) : Int).tdiv 4 = (q4 : Int) := by rw [H_q4.out]; exact Int.ofNat_tdiv L 4 |>.symm
  have hq4 : 3 ≤ q4 ∧ 4 * q4 ≤ L := by have h1 := H_q4.out; have h2 := H_L.out; omega
  have hL : a + L ≤ b ∧ b ≤ a + L := by have h2 := H_L.out; omega
  obtain ⟨m2, hm2⟩ : ∃ q : Nat, q = q4 * 2 := ⟨_, rfl⟩
  have H_m2 := Lib.hid hm2
  have e_m2 : (q4 : Int) * 2 = (m2 : Int) := by omega
  have w_m2 : IntKind.i64.wrap (m2 : Int) = (m2 : Int) := IntWalk.i64_in _ (by omega)
  clear hm2
  obtain ⟨m3, hm3⟩ : ∃ q : Nat, q = q4 * 3 := ⟨_, rfl⟩
  have H_m3 := Lib.hid hm3
  have e_m3 : (q4 : Int) * 3 = (m3 : Int) := by omega
  have w_m3 : IntKind.i64.wrap (m3 : Int) = (m3 : Int) := IntWalk.i64_in _ (by omega)
  clear hm3
  have hm23 : m2 ≤ 2 * q4 ∧ m3 ≤ 3 * q4 := by have h1 := H_m2.out; have h2 := H_m3.out; omega
  obtain ⟨x1, hx1⟩ : ∃ q : Nat, q = a + q4 := ⟨_, rfl⟩
  have H_x1 := Lib.hid hx1
  have e_x1 : (a : Int) + (q4 : Int) = (x1 : Int) := by omega
  have w_x1 : IntKind.i64.wrap (x1 : Int) = (x1 : Int) := IntWalk.i64_in _ (by omega)
  have l_x1 : x1 < n := by omega
  have k_x1 : (x1 : Int) < (n : Int) := by omega
  clear hx1
  obtain ⟨x2, hx2⟩ : ∃ q : Nat, q = a + m2 := ⟨_, rfl⟩
  have H_x2 := Lib.hid hx2
  have e_x2 : (a : Int) + (m2 : Int) = (x2 : Int) := by omega
  have w_x2 : IntKind.i64.wrap (x2 : Int) = (x2 : Int) := IntWalk.i64_in _ (by omega)
  have l_x2 : x2 < n := by omega
  have k_x2 : (x2 : Int) < (n : Int) := by omega
  clear hx2
  obtain ⟨x3, hx3⟩ : ∃ q : Nat, q = a + m3 := ⟨_, rfl⟩
  have H_x3 := Lib.hid hx3
  have e_x3 : (a : Int) + (m3 : Int) = (x3 : Int) := by omega
  have w_x3 : IntKind.i64.wrap (x3 : Int) = (x3 : Int) := IntWalk.i64_in _ (by omega)
  have l_x3 : x3 < n := by omega
  have k_x3 : (x3 : Int) < (n : Int) := by omega
  clear hx3
  have hL8 : (8 : Int) ≤ (L : Int) := by omega
  have hL5 : ¬ (50 : Int) ≤ (L : Int) := by omega
  obtain ⟨q, hq⟩ : ∃ q, q = W.heap.size := ⟨_, rfl⟩
  have hqg : q ≠ g := by
    obtain ⟨ss, _, h2, _⟩ := hS
    obtain ⟨a', cap', e1, _, _, hg⟩ := Row.form h2
    obtain ⟨g', e2, _, hlt, _⟩ := hg (by omega)
    simp only [Value.slice.injEq] at e1
    obtain ⟨e1, -, -⟩ := e1
    rw [← e1] at e2
    simp only [Option.some.injEq, Addr.mk.injEq] at e2
    omega
  have hq0 : w0.heap.size ≤ q := by
    obtain ⟨ss, _, _, h3⟩ := hS
    have := h3.size
    omega
  have HQ := Lib.hid (And.intro hqg hq0)
  have hb0 : Blk (W.alloc (.cells #[.int .i64 0] 3 (0, 0))) q 3 [.int .i64 0] := by rw [hq]; exact Blk.new W _ [.int .i64 0]
  have HB := Lib.hid hb0
  have HS := Lib.hid (hS.calm ((Mod.refl _ _).alloc (.cells #[.int .i64 0] 3 (0, 0))))
  clear hS hb0 hqg hq0
  go_enter Tryz.func180, Tryz.ntmps180
  go_wp2_with fail
  rw [← hq]
  refine (medS HC HS.out x1 x2 x3 q 0 (by omega) (by omega) (by omega) HB.out (by omega) HQ.out.1 HQ.out.2).mono ?_
  rintro e W1 ⟨x, hx, rfl, hs1, k, hk0, hk3, hb1⟩
  have HS1 := Lib.hid hs1
  have c0 : W1.cell? ⟨W.heap.size, 0, none⟩ = some (.int .i64 k) := by rw [← hq]; exact hb1.cell rfl
  have HX : Hid (a ≤ x ∧ x < b) := Lib.hid (by have h1 := H_x1.out; have h2 := H_x2.out; have h3 := H_x3.out; omega)
  have hk12 : ¬ k = 12 := by omega
  have bk12 : (k == 12) = false := by simp [hk12]
  clear hs1 hb1 hx HS HB
  by_cases hk : k = 0
  · subst hk
    go_wp2
    go_ret2
    exact ⟨x, 1, HX.out.1, HX.out.2, rfl, HS1.out⟩
  · have bk0 : (k == 0) = false := by simp [hk]
    go_wp2
    go_ret2
    exact ⟨x, 0, HX.out.1, HX.out.2, rfl, HS1.out⟩
end
section
variable {c g n cap : Nat} {ss0 : List ByteArray} {w0 : World}
set_option maxRecDepth 100000 in
set_option maxHeartbeats 4000000 in
theorem pisS (HC : Hid (SCx c g n cap ss0 w0)) {W : World} (hS : Srd g n cap ss0 w0 W) (a b : Nat) (hab : a < b) (hb : b ≤ n) :
    Calls Tryz.prog 182 #[.slice (some ⟨g, 0, none⟩) n cap, .int .i64 (a : Int), .int .i64 (b : Int), .func (.func 102) #[.pointer (some ⟨c, 0, none⟩)] #[]] W fun e W' => ∃ x : Bool, e = .returned (.bool x) ∧ Srd g n cap ss0 w0 W' := by
  have hn4 := HC.out.n4
  have HS := Lib.hid hS
  clear hS
  obtain ⟨a1, ha1⟩ : ∃ q : Nat, q = a + 1 := ⟨_, rfl⟩
  have H_a1 := Lib.hid ha1
  have e_a1 : (a : Int) + 1 = (a1 : Int) := by omega
  have w_a1 : IntKind.i64.wrap (a1 : Int) = (a1 : Int) := IntWalk.i64_in _ (by omega)
  clear ha1
  obtain ⟨L, hL⟩ : ∃ q : Nat, q = b - a := ⟨_, rfl⟩
  have H_L := Lib.hid hL
  have e_L : (b : Int) - (a : Int) = (L : Int) := by omega
  have w_L : IntKind.i64.wrap (L : Int) = (L : Int) := IntWalk.i64_in _ (by omega)
  clear hL
  have ha1 : a1 ≤ a + 1 ∧ a + 1 ≤ a1 := by have := H_a1.out; omega
  have hL5 : (L : Int) < 50 := by have := H_L.out; omega
  go_enter Tryz.func182, Tryz.ntmps182
  go_wp2_with fail
  go_loopw [9, 10] (fun iv jv wr => iv = .int .i64 (a1 : Int) ∧ jv = .int .i64 0 ∧ Srd g n cap ss0 w0 wr) (fun _ _ _ => 0)
  case atStart => exact ⟨rfl, rfl, HS.out⟩
  case round =>
    clear HS
    obtain ⟨rfl, rfl, hs⟩ := hrel
    have HSI := Lib.hid hs
    clear hs
    go_upto_block 2 with fail
    go_cut [9] from 19 to 39 (fun iv wx => ∃ i : Nat, a + 1 ≤ i ∧ i ≤ b ∧ iv = .int .i64 (i : Int) ∧ Srd g n cap ss0 w0 wx)
    case first =>
      go_wp2_with fail
      go_loopw [9] (fun iv wr => ∃ i : Nat, a + 1 ≤ i ∧ i ≤ b ∧ iv = .int .i64 (i : Int) ∧ Srd g n cap ss0 w0 wr) (fun iv _ => b + 1 - (intOf iv).toNat)
      case atStart => exact ⟨a1, by omega, by omega, rfl, HSI.out⟩
      case round =>
        clear HSI
        obtain ⟨i, hv1, hv2, rfl, hs⟩ := hrel
        by_cases hij : i < b
        · have q3 : (i : Int) < (b : Int) := by omega
          have q4 : decide ((i : Int) < (b : Int)) = true := decide_eq_true q3
          have hvn : i < n := by omega
          have q5 : (i : Int) < (n : Int) := by omega
          obtain ⟨ip, hip⟩ : ∃ q : Nat, q = i - 1 := ⟨_, rfl⟩
          have H_ip := Lib.hid hip
          have e_ip : (i : Int) - 1 = (ip : Int) := by omega
          have w_ip : IntKind.i64.wrap (ip : Int) = (ip : Int) := IntWalk.i64_in _ (by omega)
          have l_ip : ip < n := by omega
          have k_ip : (ip : Int) < (n : Int) := by omega
          clear hip
          go_wp2_with fail
          obtain ⟨ssA, hpA, hrA, hmA⟩ := hs
          obtain ⟨xA, hxA⟩ : ∃ x, ssA[i]? = some x := ⟨_, List.getElem?_eq_getElem (by rw [Srt.len hrA]; omega)⟩
          obtain ⟨yA, hyA⟩ : ∃ x, ssA[ip]? = some x := ⟨_, List.getElem?_eq_getElem (by rw [Srt.len hrA]; omega)⟩
          have hSA : wr.drew.cell? ⟨g, i, none⟩ = some (.string xA) ∧ wr.drew.cell? ⟨g, ip, none⟩ = some (.string yA) := ⟨Srt.cell hrA hxA, Srt.cell hrA hyA⟩
          have hcA := HC.out.cmp wr.drew xA yA hmA.drew (hpA.mem_iff.1 (List.mem_of_getElem? hxA)) (hpA.mem_iff.1 (List.mem_of_getElem? hyA))
          have HSA := Lib.hid (Srt.mk' hpA hrA hmA)
          have HCA := Lib.hid hcA
          clear hpA hrA hmA hxA hyA hcA
          refine wp_region_plan [14] [(0, 0), (1, 0), (2, 0), (3, 0), (4, 0), (5, 0), (6, 0), (7, 0), (8, 1), (9, 0), (10, 0), (11, 0), (12, 0), (13, 1), (14, 3), (15, 0), (16, 0), (17, 0)] (fun w' : World => w'.cell? ⟨g, i, none⟩ = some (.string xA) ∧ w'.cell? ⟨g, ip, none⟩ = some (.string yA)) (by kernel_rfl) (by kernel_rfl) (fun d v c a w h => by first | (cases d <;> exact h) | exact HP d v c a w h) ?_
          repeat ((first | refine plan_skip rfl rfl ?_ | refine plan_pass2 rfl rfl ?_ | refine plan_pass3 rfl rfl ?_ | (refine plan_take (v := ?_) rfl rfl ?_ ?_; rotate_left; focus (intro w0; go_simp; try with_reducible rfl)) | (refine plan_held (v := ?_) rfl rfl hSA ?_ ?_; rotate_left; focus (intro w0 hSw; (try dsimp only at hSw); go_split_ands; go_simp; try with_reducible rfl)) | refine plan_skip1 rfl rfl hSA ?_); simp only [List.getElem_toArray, List.getElem_cons_succ, List.getElem_cons_zero, Act.put, List.setIfInBounds_toArray, List.set_cons_zero, List.set_cons_succ])
          (refine plan_end rfl rfl rfl fun K hK => ?_; (try simp only [List.getElem_toArray, List.getElem_cons_succ, List.getElem_cons_zero]))
          go_simp
          refine HCA.out.mono ?_
          rintro e W2 ⟨⟨rA, rfl⟩, hmA⟩
          have hs2 : Srd g n cap ss0 w0 W2 := HSA.out.calm ((Mod.refl _ _).drew.trans hmA fun _ f => f.elim)
          refine hK _ _ ?_
          clear hK K hSA HSA HCA hmA
          try simp only [List.getElem_toArray, List.getElem_cons_succ, List.getElem_cons_zero, Act.put, List.setIfInBounds_toArray, List.set_cons_zero, List.set_cons_succ]
          by_cases hr : rA < 0
          · have hd : decide (rA < 0) = true := decide_eq_true hr
            repeat ((first | refine plan_skip rfl rfl ?_ | refine plan_pass2 rfl rfl ?_ | refine plan_pass3 rfl rfl ?_ | (refine plan_take (v := ?_) rfl rfl ?_ ?_; rotate_left; focus (intro w0; go_simp; try with_reducible rfl))); simp only [List.getElem_toArray, List.getElem_cons_succ, List.getElem_cons_zero, Act.put, List.setIfInBounds_toArray, List.set_cons_zero, List.set_cons_succ])
            refine plan_nil ?_
            have HS2 := Lib.hid hs2
            clear hs2
            go_wp2_with fail
            go_meet
            exact ⟨i, hv1, hv2, rfl, HS2.out⟩
          · have hd : decide (rA < 0) = false := decide_eq_false hr
            repeat ((first | refine plan_skip rfl rfl ?_ | refine plan_pass2 rfl rfl ?_ | refine plan_pass3 rfl rfl ?_ | (refine plan_take (v := ?_) rfl rfl ?_ ?_; rotate_left; focus (intro w0; go_simp; try with_reducible rfl))); simp only [List.getElem_toArray, List.getElem_cons_succ, List.getElem_cons_zero, Act.put, List.setIfInBounds_toArray, List.set_cons_zero, List.set_cons_succ])
            refine plan_nil ?_
            have HS2 := Lib.hid hs2
            clear hs2
            go_wp2
            go_roundw
            case rel => exact ⟨i + 1, by omega, by omega, by go_num, HS2.out⟩
            case measure => simp [intOf]; omega
        · have q3 : ¬ (i : Int) < (b : Int) := by omega
          have q4 : decide ((i : Int) < (b : Int)) = false := decide_eq_false q3
          have HS2 := Lib.hid hs.drew
          clear hs
          go_wp2_with fail
          refine wp_region_plan [14] [(0, 0), (1, 0), (2, 0), (3, 0), (4, 0), (5, 0), (6, 0), (7, 0), (8, 1), (9, 0), (10, 0), (11, 0), (12, 0), (13, 1), (14, 3), (15, 0), (16, 0), (17, 0)] (fun w' : World => True) (by kernel_rfl) (by kernel_rfl) (fun d v c a w h => by first | (cases d <;> exact h) | exact HP d v c a w h) ?_
          repeat ((first | refine plan_skip rfl rfl ?_ | refine plan_pass2 rfl rfl ?_ | refine plan_pass3 rfl rfl ?_ | (refine plan_take (v := ?_) rfl rfl ?_ ?_; rotate_left; focus (intro w0; go_simp; try with_reducible rfl)) | (refine plan_held (v := ?_) rfl rfl trivial ?_ ?_; rotate_left; focus (intro w0 hSw; (try dsimp only at hSw); go_split_ands; go_simp; try with_reducible rfl)) | refine plan_skip1 rfl rfl trivial ?_); simp only [List.getElem_toArray, List.getElem_cons_succ, List.getElem_cons_zero, Act.put, List.setIfInBounds_toArray, List.set_cons_zero, List.set_cons_succ])
          refine plan_nil ?_
          go_wp2_with fail
          go_meet
          exact ⟨i, hv1, hv2, rfl, HS2.out⟩
    case rest =>
      rename World => wx
      clear HSI
      obtain ⟨i, hv1, hv2, rfl, hs⟩ := hcut
      have HSJ := Lib.hid hs
      clear hs
      by_cases hib : i = b
      · have bib : ((i : Int) == (b : Int)) = true := by simp; omega
        go_wp2
        go_ret
        exact ⟨true, rfl, HSJ.out⟩
      · have hib2 : ¬ (i : Int) = (b : Int) := by omega
        have bib : ((i : Int) == (b : Int)) = false := by simp; omega
        go_wp2
        go_ret
        exact ⟨false, rfl, HSJ.out⟩
end
end Go.Proofs.YtcccdlmngddalaaGreat
