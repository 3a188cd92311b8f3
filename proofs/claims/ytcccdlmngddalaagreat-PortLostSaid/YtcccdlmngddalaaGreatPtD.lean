/- A report of version 2: compat.Older, compat.Records; port.Lost: contracts. -/
import Derived.Test.YtcccdlmngddalaaGreatGrSa
import Derived.Test.YtcccdlmngddalaaGreatGrLay
import Derived.Test.YtcccdlmngddalaaGreatGrSb
import Derived.Test.YtcccdlmngddalaaGreatGrSc
import Derived.Test.YtcccdlmngddalaaGreatGrSd
import Derived.Test.YtcccdlmngddalaaGreatGrV
import Derived.Test.YtcccdlmngddalaaGreatMapC
import Derived.Test.YtcccdlmngddalaaGreatGrEp
set_option linter.unusedVariables false
set_option linter.unusedSimpArgs false
namespace Go.Proofs.YtcccdlmngddalaaGreat
open Go.RowKit
theorem intSz : (Tryz.prog.info? 3).map (·.size) = some 1 := by kernel_rfl
theorem Srd.aside {g n cap : Nat} {ss0 : List ByteArray} {w0 W W' : World} {q : Nat} (h : Srd g n cap ss0 w0 W) (hm : Mod (fun k => k = q) W W') (hq : q ≠ g) (hq0 : w0.heap.size ≤ q) : Srd g n cap ss0 w0 W' := by
  obtain ⟨ss, h1, h2, h3⟩ := h
  have h2' : Row W (fun k => k = g) 9 1 (.slice (some ⟨g, 0, none⟩) n cap) n (ss.map Value.string) := ⟨h2.1, fun k hk => by
    have e' : some g = some k := hk
    injection e' with e'
    exact e'.symm⟩
  exact ⟨ss, h1, (h2'.keep hm fun k hk e => hq (by omega)).mono fun _ _ => trivial, h3.trans hm fun k hk => .inr (by omega)⟩
section
variable {c g n cap : Nat} {ss0 : List ByteArray} {w0 : World}
set_option maxRecDepth 100000 in
set_option maxHeartbeats 4000000 in
theorem o2S (HC : Hid (SCx c g n cap ss0 w0)) {W : World} (hS : Srd g n cap ss0 w0 W) (a b q : Nat) (k : Int) (ha : a < n) (hb : b < n) (hB : Blk W q 3 [.int .i64 k]) (hk : 0 ≤ k ∧ k ≤ 1000) (hq : q ≠ g) (hq0 : w0.heap.size ≤ q) :
    Calls Tryz.prog 202 #[.slice (some ⟨g, 0, none⟩) n cap, .int .i64 (a : Int), .int .i64 (b : Int), .pointer (some ⟨q, 0, none⟩), .func (.func 102) #[.pointer (some ⟨c, 0, none⟩)] #[]] W fun e W' => ∃ x y : Nat, (x = a ∧ y = b ∨ x = b ∧ y = a) ∧ e = .returned (.tuple #[.int .i64 (x : Int), .int .i64 (y : Int)]) ∧ Srd g n cap ss0 w0 W' ∧ ∃ k' : Int, 0 ≤ k' ∧ k' ≤ k + 1 ∧ Blk W' q 3 [.int .i64 k'] := by
  have hn4 := HC.out.n4
  have HB := Lib.hid hB
  have HQ := Lib.hid (And.intro hq hq0)
  have qa : (a : Int) < (n : Int) := by omega
  have qb : (b : Int) < (n : Int) := by omega
  have ek : IntKind.i64.wrap (k + 1) = k + 1 := IntWalk.i64_in _ (by omega)
  have hs := hS
  clear hS hB hq hq0
  go_enter Tryz.func202, Tryz.ntmps202
  go_wp2_with fail
  obtain ⟨ssA, hpA, hrA, hmA⟩ := hs
  obtain ⟨xA, hxA⟩ : ∃ x, ssA[b]? = some x := ⟨_, List.getElem?_eq_getElem (by rw [Srt.len hrA]; omega)⟩
  obtain ⟨yA, hyA⟩ : ∃ x, ssA[a]? = some x := ⟨_, List.getElem?_eq_getElem (by rw [Srt.len hrA]; omega)⟩
  have hSA : W.drew.cell? ⟨g, b, none⟩ = some (.string xA) ∧ W.drew.cell? ⟨g, a, none⟩ = some (.string yA) := ⟨Srt.cell hrA hxA, Srt.cell hrA hyA⟩
  have hcA := HC.out.cmp W.drew xA yA hmA.drew (hpA.mem_iff.1 (List.mem_of_getElem? hxA)) (hpA.mem_iff.1 (List.mem_of_getElem? hyA))
  have HSA := Lib.hid (Srt.mk' hpA hrA hmA)
  have HCA := Lib.hid hcA
  clear hpA hrA hmA hxA hyA hcA
  refine wp_region_plan [9] [(0, 0), (1, 0), (2, 0), (3, 0), (4, 1), (5, 0), (6, 0), (7, 0), (8, 1), (9, 3), (10, 0)] (fun w' : World => w'.cell? ⟨g, b, none⟩ = some (.string xA) ∧ w'.cell? ⟨g, a, none⟩ = some (.string yA)) (by kernel_rfl) (by kernel_rfl) (fun d v c a w h => by first | (cases d <;> exact h) | exact HP d v c a w h) ?_
  repeat ((first | refine plan_skip rfl rfl ?_ | refine plan_pass2 rfl rfl ?_ | refine plan_pass3 rfl rfl ?_ | (refine plan_take (v := ?_) rfl rfl ?_ ?_; rotate_left; focus (intro w0; go_simp; try with_reducible rfl)) | (refine plan_held (v := ?_) rfl rfl hSA ?_ ?_; rotate_left; focus (intro w0 hSw; (try dsimp only at hSw); go_split_ands; go_simp; try with_reducible rfl)) | refine plan_skip1 rfl rfl hSA ?_); simp only [nA, nB, nC, Act.put, nD, nE, nF])
  (refine plan_end rfl rfl rfl fun K hK => ?_; (try simp only [nA, nB, nC]))
  go_simp
  refine HCA.out.mono ?_
  rintro e W2 ⟨⟨rA, rfl⟩, hmA⟩
  have hs2 : Srd g n cap ss0 w0 W2 := HSA.out.calm ((Mod.refl _ _).drew.trans hmA fun _ f => f.elim)
  have HB2 : Hid (Blk W2 q 3 [.int .i64 k]) := Lib.hid (Blk.keep HB.out.drew hmA fun f => f)
  refine hK _ _ ?_
  clear hK K hSA HSA HCA hmA
  try simp only [nA, nB, nC, Act.put, nD, nE, nF]
  have HS2 := Lib.hid hs2
  clear hs2
  by_cases hr : rA < 0
  · have hd : decide (rA < 0) = true := decide_eq_true hr
    have c0 : W2.cell? ⟨q, 0, none⟩ = some (.int .i64 k) := HB2.out.cell rfl
    repeat ((first | refine plan_skip rfl rfl ?_ | refine plan_pass2 rfl rfl ?_ | refine plan_pass3 rfl rfl ?_ | (refine plan_take (v := ?_) rfl rfl ?_ ?_; rotate_left; focus (intro w0; go_simp; try with_reducible rfl))); simp only [nA, nB, nC, Act.put, nD, nE, nF])
    refine plan_nil ?_
    go_wp2_with (refine wpList_store_blk1 rfl 3 _ _ rfl q 0 3 _ (.int .i64 (k + 1)) rfl (by go_simp) HB2.out (by simp) intSz rfl ?_; intro W3 HB3 HM3)
    go_ret2
    exact ⟨b, a, .inr ⟨rfl, rfl⟩, rfl, HS2.out.aside HM3.out HQ.out.1 HQ.out.2, k + 1, by omega, by omega, HB3.out⟩
  · have hd : decide (rA < 0) = false := decide_eq_false hr
    repeat ((first | refine plan_skip rfl rfl ?_ | refine plan_pass2 rfl rfl ?_ | refine plan_pass3 rfl rfl ?_ | (refine plan_take (v := ?_) rfl rfl ?_ ?_; rotate_left; focus (intro w0; go_simp; try with_reducible rfl))); simp only [nA, nB, nC, Act.put, nD, nE, nF])
    refine plan_nil ?_
    go_wp2
    go_ret2
    exact ⟨a, b, .inl ⟨rfl, rfl⟩, rfl, HS2.out, k, by omega, by omega, HB2.out⟩
end
section
variable {c g n cap : Nat} {ss0 : List ByteArray} {w0 : World}
set_option maxRecDepth 100000 in
set_option maxHeartbeats 4000000 in
theorem medS (HC : Hid (SCx c g n cap ss0 w0)) {W : World} (hS : Srd g n cap ss0 w0 W) (a b d q : Nat) (k : Int) (ha : a < n) (hb : b < n) (hd : d < n) (hB : Blk W q 3 [.int .i64 k]) (hk : 0 ≤ k ∧ k ≤ 900) (hq : q ≠ g) (hq0 : w0.heap.size ≤ q) :
    Calls Tryz.prog 198 #[.slice (some ⟨g, 0, none⟩) n cap, .int .i64 (a : Int), .int .i64 (b : Int), .int .i64 (d : Int), .pointer (some ⟨q, 0, none⟩), .func (.func 102) #[.pointer (some ⟨c, 0, none⟩)] #[]] W fun e W' => ∃ x : Nat, (x = a ∨ x = b ∨ x = d) ∧ e = .returned (.int .i64 (x : Int)) ∧ Srd g n cap ss0 w0 W' ∧ ∃ k' : Int, 0 ≤ k' ∧ k' ≤ k + 3 ∧ Blk W' q 3 [.int .i64 k'] := by
  have HQ := Lib.hid (And.intro hq hq0)
  have HB := Lib.hid hB
  have HS := Lib.hid hS
  clear hS hB hq hq0
  go_enter Tryz.func198, Tryz.ntmps198
  go_wp2_with fail
  refine (o2S HC HS.out a b q k ha hb HB.out (by omega) HQ.out.1 HQ.out.2).mono ?_
  rintro e W1 ⟨x1, y1, hxy1, rfl, hs1, k1, hk1, hk1', hb1⟩
  have HS1 := Lib.hid hs1
  have HB1 := Lib.hid hb1
  have HXY1 := Lib.hid hxy1
  have hx1n : x1 < n ∧ y1 < n := by omega
  clear hs1 hb1 hxy1 HS HB
  go_wp2_with fail
  refine (o2S HC HS1.out y1 d q k1 hx1n.2 hd HB1.out (by omega) HQ.out.1 HQ.out.2).mono ?_
  rintro e W2 ⟨x2, y2, hxy2, rfl, hs2, k2, hk2, hk2', hb2⟩
  have HS2 := Lib.hid hs2
  have HB2 := Lib.hid hb2
  have HXY2 := Lib.hid hxy2
  have hx2n : x2 < n ∧ y2 < n := by omega
  clear hs2 hb2 hxy2 HS1 HB1
  go_wp2_with fail
  refine (o2S HC HS2.out x1 x2 q k2 hx1n.1 hx2n.1 HB2.out (by omega) HQ.out.1 HQ.out.2).mono ?_
  rintro e W3 ⟨x3, y3, hxy3, rfl, hs3, k3, hk3, hk3', hb3⟩
  have HS3 := Lib.hid hs3
  have HB3 := Lib.hid hb3
  have HXY3 := Lib.hid hxy3
  clear hs3 hb3 hxy3 HS2 HB2
  go_wp2
  go_ret
  exact ⟨y3, by have := HXY1.out; have := HXY2.out; have := HXY3.out; omega, rfl, HS3.out, k3, hk3, by omega, HB3.out⟩
end
section
variable {c g n cap : Nat} {ss0 : List ByteArray} {w0 : World}
set_option maxRecDepth 100000 in
set_option maxHeartbeats 4000000 in
theorem pivS (HC : Hid (SCx c g n cap ss0 w0)) {W : World} (hS : Srd g n cap ss0 w0 W) (a b : Nat) (hab : a + 12 < b) (hb : b ≤ n) :
    Calls Tryz.prog 180 #[.slice (some ⟨g, 0, none⟩) n cap, .int .i64 (a : Int), .int .i64 (b : Int), .func (.func 102) #[.pointer (some ⟨c, 0, none⟩)] #[]] W fun e W' => ∃ (x : Nat) (h : Int), a ≤ x ∧ x < b ∧ e = .returned (.tuple #[.int .i64 (x : Int), .int .i64 h]) ∧ Srd g n cap ss0 w0 W' := by
  have hn4 := HC.out.n4
  obtain ⟨L, hL⟩ : ∃ q : Nat, q = b - a := ⟨_, rfl⟩
  have H_L := Lib.hid hL
  have e_L : (b : Int) - (a : Int) = (L : Int) := by omega
  have w_L : IntKind.i64.wrap (L : Int) = (L : Int) := IntWalk.i64_in _ (by omega)
  clear hL
  obtain ⟨q4, hq4⟩ : ∃ q : Nat, q = L / 4 := ⟨_, rfl⟩
  have H_q4 := Lib.hid hq4
  have w_q4 : IntKind.i64.wrap (q4 : Int) = (q4 : Int) := IntWalk.i64_in _ (by omega)
  clear hq4
  have e_q4 : ((L : Nat) : Int).tdiv 4 = (q4 : Int) := by rw [H_q4.out]; exact Int.ofNat_tdiv L 4 |>.symm
  have hq4 : 3 ≤ q4 ∧ 4 * q4 ≤ L := by have h1 := H_q4.out; have h2 := H_L.out; omega
  have hL : a + L ≤ b ∧ b ≤ a + L := by have h2 := H_L.out; omega
  obtain ⟨m2, hm2⟩ : ∃ q : Nat, q = q4 * 2 := ⟨_, rfl⟩
  have H_m2 := Lib.hid hm2
  have e_m2 : (q4 : Int) * 2 = (m2 : Int) := by omega
  have w_m2 : IntKind.i64.wrap (m2 : Int) = (m2 : Int) := IntWalk.i64_in _ (by omega)
  clear hm2
  obtain ⟨m3, hm3⟩ : ∃ q : Nat, q = q4 * 3 := ⟨_, rfl⟩
  have H_m3 := Lib.hid hm3
  have e_m3 : (q4 : Int) * 3 = (m3 : Int) := by omega
  have w_m3 : IntKind.i64.wrap (m3 : Int) = (m3 : Int) := IntWalk.i64_in _ (by omega)
  clear hm3
  have hm23 : m2 ≤ 2 * q4 ∧ m3 ≤ 3 * q4 := by have h1 := H_m2.out; have h2 := H_m3.out; omega
  obtain ⟨x1, hx1⟩ : ∃ q : Nat, q = a + q4 := ⟨_, rfl⟩
  have H_x1 := Lib.hid hx1
  have e_x1 : (a : Int) + (q4 : Int) = (x1 : Int) := by omega
  have w_x1 : IntKind.i64.wrap (x1 : Int) = (x1 : Int) := IntWalk.i64_in _ (by omega)
  have l_x1 : x1 < n := by omega
  have k_x1 : (x1 : Int) < (n : Int) := by omega
  clear hx1
  obtain ⟨x2, hx2⟩ : ∃ q : Nat, q = a + m2 := ⟨_, rfl⟩
  have H_x2 := Lib.hid hx2
  have e_x2 : (a : Int) + (m2 : Int) = (x2 : Int) := by omega
  have w_x2 : IntKind.i64.wrap (x2 : Int) = (x2 : Int) := IntWalk.i64_in _ (by omega)
  have l_x2 : x2 < n := by omega
  have k_x2 : (x2 : Int) < (n : Int) := by omega
  clear hx2
  obtain ⟨x3, hx3⟩ : ∃ q : Nat, q = a + m3 := ⟨_, rfl⟩
  have H_x3 := Lib.hid hx3
  have e_x3 : (a : Int) + (m3 : Int) = (x3 : Int) := by omega
  have w_x3 : IntKind.i64.wrap (x3 : Int) = (x3 : Int) := IntWalk.i64_in _ (by omega)
  have l_x3 : x3 < n := by omega
  have k_x3 : (x3 : Int) < (n : Int) := by omega
  clear hx3
  have hL8 : (8 : Int) ≤ (L : Int) := by omega
  have hL5 : ¬ (50 : Int) ≤ (L : Int) := by omega
  obtain ⟨q, hq⟩ : ∃ q, q = W.heap.size := ⟨_, rfl⟩
  have hqg : q ≠ g := by
    obtain ⟨ss, _, h2, _⟩ := hS
    obtain ⟨a', cap', e1, _, _, hg⟩ := Row.form h2
    obtain ⟨g', e2, _, hlt, _⟩ := hg (by omega)
    simp only [Value.slice.injEq] at e1
    obtain ⟨e1, -, -⟩ := e1
    rw [← e1] at e2
    simp only [Option.some.injEq, Addr.mk.injEq] at e2
    omega
  have hq0 : w0.heap.size ≤ q := by
    obtain ⟨ss, _, _, h3⟩ := hS
    have := h3.size
    omega
  have HQ := Lib.hid (And.intro hqg hq0)
  have hb0 : Blk (W.alloc (.cells #[.int .i64 0] 3 (0, 0))) q 3 [.int .i64 0] := by rw [hq]; exact Blk.new W _ [.int .i64 0]
  have HB := Lib.hid hb0
  have HS := Lib.hid (hS.calm ((Mod.refl _ _).alloc (.cells #[.int .i64 0] 3 (0, 0))))
  clear hS hb0 hqg hq0
  go_enter Tryz.func180, Tryz.ntmps180
  go_wp2_with fail
  rw [← hq]
  refine (medS HC HS.out x1 x2 x3 q 0 (by omega) (by omega) (by omega) HB.out (by omega) HQ.out.1 HQ.out.2).mono ?_
  rintro e W1 ⟨x, hx, rfl, hs1, k, hk0, hk3, hb1⟩
  have HS1 := Lib.hid hs1
  have c0 : W1.cell? ⟨W.heap.size, 0, none⟩ = some (.int .i64 k) := by rw [← hq]; exact hb1.cell rfl
  have HX : Hid (a ≤ x ∧ x < b) := Lib.hid (by have h1 := H_x1.out; have h2 := H_x2.out; have h3 := H_x3.out; omega)
  have hk12 : ¬ k = 12 := by omega
  have bk12 : (k == 12) = false := by simp [hk12]
  clear hs1 hb1 hx HS HB
  by_cases hk : k = 0
  · subst hk
    go_wp2
    go_ret2
    exact ⟨x, 1, HX.out.1, HX.out.2, rfl, HS1.out⟩
  · have bk0 : (k == 0) = false := by simp [hk]
    go_wp2
    go_ret2
    exact ⟨x, 0, HX.out.1, HX.out.2, rfl, HS1.out⟩
end
section
variable {c g n cap : Nat} {ss0 : List ByteArray} {w0 : World}
set_option maxRecDepth 100000 in
set_option maxHeartbeats 4000000 in
theorem pisS (HC : Hid (SCx c g n cap ss0 w0)) {W : World} (hS : Srd g n cap ss0 w0 W) (a b : Nat) (hab : a < b) (hb : b ≤ n) :
    Calls Tryz.prog 182 #[.slice (some ⟨g, 0, none⟩) n cap, .int .i64 (a : Int), .int .i64 (b : Int), .func (.func 102) #[.pointer (some ⟨c, 0, none⟩)] #[]] W fun e W' => ∃ x : Bool, e = .returned (.bool x) ∧ Srd g n cap ss0 w0 W' := by
  have hn4 := HC.out.n4
  have HS := Lib.hid hS
  clear hS
  obtain ⟨a1, ha1⟩ : ∃ q : Nat, q = a + 1 := ⟨_, rfl⟩
  have H_a1 := Lib.hid ha1
  have e_a1 : (a : Int) + 1 = (a1 : Int) := by omega
  have w_a1 : IntKind.i64.wrap (a1 : Int) = (a1 : Int) := IntWalk.i64_in _ (by omega)
  clear ha1
  obtain ⟨L, hL⟩ : ∃ q : Nat, q = b - a := ⟨_, rfl⟩
  have H_L := Lib.hid hL
  have e_L : (b : Int) - (a : Int) = (L : Int) := by omega
  have w_L : IntKind.i64.wrap (L : Int) = (L : Int) := IntWalk.i64_in _ (by omega)
  clear hL
  have ha1 : a1 ≤ a + 1 ∧ a + 1 ≤ a1 := by have := H_a1.out; omega
  have hL5 : (L : Int) < 50 := by have := H_L.out; omega
  go_enter Tryz.func182, Tryz.ntmps182
  go_wp2_with fail
  go_loopw [9, 10] (fun iv jv wr => iv = .int .i64 (a1 : Int) ∧ jv = .int .i64 0 ∧ Srd g n cap ss0 w0 wr) (fun _ _ _ => 0)
  case atStart => exact ⟨rfl, rfl, HS.out⟩
  case round =>
    clear HS
    obtain ⟨rfl, rfl, hs⟩ := hrel
    have HSI := Lib.hid hs
    clear hs
    go_upto_block 2 with fail
    go_cut [9] from 19 to 39 (fun iv wx => ∃ i : Nat, a + 1 ≤ i ∧ i ≤ b ∧ iv = .int .i64 (i : Int) ∧ Srd g n cap ss0 w0 wx)
    case first =>
      go_wp2_with fail
      go_loopw [9] (fun iv wr => ∃ i : Nat, a + 1 ≤ i ∧ i ≤ b ∧ iv = .int .i64 (i : Int) ∧ Srd g n cap ss0 w0 wr) (fun iv _ => b + 1 - (intOf iv).toNat)
      case atStart => exact ⟨a1, by omega, by omega, rfl, HSI.out⟩
      case round =>
        clear HSI
        obtain ⟨i, hv1, hv2, rfl, hs⟩ := hrel
        by_cases hij : i < b
        · have q3 : (i : Int) < (b : Int) := by omega
          have q4 : decide ((i : Int) < (b : Int)) = true := decide_eq_true q3
          have hvn : i < n := by omega
          have q5 : (i : Int) < (n : Int) := by omega
          obtain ⟨ip, hip⟩ : ∃ q : Nat, q = i - 1 := ⟨_, rfl⟩
          have H_ip := Lib.hid hip
          have e_ip : (i : Int) - 1 = (ip : Int) := by omega
          have w_ip : IntKind.i64.wrap (ip : Int) = (ip : Int) := IntWalk.i64_in _ (by omega)
          have l_ip : ip < n := by omega
          have k_ip : (ip : Int) < (n : Int) := by omega
          clear hip
          go_wp2_with fail
          obtain ⟨ssA, hpA, hrA, hmA⟩ := hs
          obtain ⟨xA, hxA⟩ : ∃ x, ssA[i]? = some x := ⟨_, List.getElem?_eq_getElem (by rw [Srt.len hrA]; omega)⟩
          obtain ⟨yA, hyA⟩ : ∃ x, ssA[ip]? = some x := ⟨_, List.getElem?_eq_getElem (by rw [Srt.len hrA]; omega)⟩
          have hSA : wr.drew.cell? ⟨g, i, none⟩ = some (.string xA) ∧ wr.drew.cell? ⟨g, ip, none⟩ = some (.string yA) := ⟨Srt.cell hrA hxA, Srt.cell hrA hyA⟩
          have hcA := HC.out.cmp wr.drew xA yA hmA.drew (hpA.mem_iff.1 (List.mem_of_getElem? hxA)) (hpA.mem_iff.1 (List.mem_of_getElem? hyA))
          have HSA := Lib.hid (Srt.mk' hpA hrA hmA)
          have HCA := Lib.hid hcA
          clear hpA hrA hmA hxA hyA hcA
          refine wp_region_plan [14] [(0, 0), (1, 0), (2, 0), (3, 0), (4, 0), (5, 0), (6, 0), (7, 0), (8, 1), (9, 0), (10, 0), (11, 0), (12, 0), (13, 1), (14, 3), (15, 0), (16, 0), (17, 0)] (fun w' : World => w'.cell? ⟨g, i, none⟩ = some (.string xA) ∧ w'.cell? ⟨g, ip, none⟩ = some (.string yA)) (by kernel_rfl) (by kernel_rfl) (fun d v c a w h => by first | (cases d <;> exact h) | exact HP d v c a w h) ?_
          repeat ((first | refine plan_skip rfl rfl ?_ | refine plan_pass2 rfl rfl ?_ | refine plan_pass3 rfl rfl ?_ | (refine plan_take (v := ?_) rfl rfl ?_ ?_; rotate_left; focus (intro w0; go_simp; try with_reducible rfl)) | (refine plan_held (v := ?_) rfl rfl hSA ?_ ?_; rotate_left; focus (intro w0 hSw; (try dsimp only at hSw); go_split_ands; go_simp; try with_reducible rfl)) | refine plan_skip1 rfl rfl hSA ?_); simp only [nA, nB, nC, Act.put, nD, nE, nF])
          (refine plan_end rfl rfl rfl fun K hK => ?_; (try simp only [nA, nB, nC]))
          go_simp
          refine HCA.out.mono ?_
          rintro e W2 ⟨⟨rA, rfl⟩, hmA⟩
          have hs2 : Srd g n cap ss0 w0 W2 := HSA.out.calm ((Mod.refl _ _).drew.trans hmA fun _ f => f.elim)
          refine hK _ _ ?_
          clear hK K hSA HSA HCA hmA
          try simp only [nA, nB, nC, Act.put, nD, nE, nF]
          by_cases hr : rA < 0
          · have hd : decide (rA < 0) = true := decide_eq_true hr
            repeat ((first | refine plan_skip rfl rfl ?_ | refine plan_pass2 rfl rfl ?_ | refine plan_pass3 rfl rfl ?_ | (refine plan_take (v := ?_) rfl rfl ?_ ?_; rotate_left; focus (intro w0; go_simp; try with_reducible rfl))); simp only [nA, nB, nC, Act.put, nD, nE, nF])
            refine plan_nil ?_
            have HS2 := Lib.hid hs2
            clear hs2
            go_wp2_with fail
            go_meet
            exact ⟨i, hv1, hv2, rfl, HS2.out⟩
          · have hd : decide (rA < 0) = false := decide_eq_false hr
            repeat ((first | refine plan_skip rfl rfl ?_ | refine plan_pass2 rfl rfl ?_ | refine plan_pass3 rfl rfl ?_ | (refine plan_take (v := ?_) rfl rfl ?_ ?_; rotate_left; focus (intro w0; go_simp; try with_reducible rfl))); simp only [nA, nB, nC, Act.put, nD, nE, nF])
            refine plan_nil ?_
            have HS2 := Lib.hid hs2
            clear hs2
            go_wp2
            go_roundw
            case rel => exact ⟨i + 1, by omega, by omega, by go_num, HS2.out⟩
            case measure => simp [intOf]; omega
        · have q3 : ¬ (i : Int) < (b : Int) := by omega
          have q4 : decide ((i : Int) < (b : Int)) = false := decide_eq_false q3
          have HS2 := Lib.hid hs.drew
          clear hs
          go_wp2_with fail
          refine wp_region_plan [14] [(0, 0), (1, 0), (2, 0), (3, 0), (4, 0), (5, 0), (6, 0), (7, 0), (8, 1), (9, 0), (10, 0), (11, 0), (12, 0), (13, 1), (14, 3), (15, 0), (16, 0), (17, 0)] (fun w' : World => True) (by kernel_rfl) (by kernel_rfl) (fun d v c a w h => by first | (cases d <;> exact h) | exact HP d v c a w h) ?_
          repeat ((first | refine plan_skip rfl rfl ?_ | refine plan_pass2 rfl rfl ?_ | refine plan_pass3 rfl rfl ?_ | (refine plan_take (v := ?_) rfl rfl ?_ ?_; rotate_left; focus (intro w0; go_simp; try with_reducible rfl)) | (refine plan_held (v := ?_) rfl rfl trivial ?_ ?_; rotate_left; focus (intro w0 hSw; (try dsimp only at hSw); go_split_ands; go_simp; try with_reducible rfl)) | refine plan_skip1 rfl rfl trivial ?_); simp only [nA, nB, nC, Act.put, nD, nE, nF])
          refine plan_nil ?_
          go_wp2_with fail
          go_meet
          exact ⟨i, hv1, hv2, rfl, HS2.out⟩
    case rest =>
      rename World => wx
      clear HSI
      obtain ⟨i, hv1, hv2, rfl, hs⟩ := hcut
      have HSJ := Lib.hid hs
      clear hs
      by_cases hib : i = b
      · have bib : ((i : Int) == (b : Int)) = true := by simp; omega
        go_wp2
        go_ret
        exact ⟨true, rfl, HSJ.out⟩
      · have hib2 : ¬ (i : Int) = (b : Int) := by omega
        have bib : ((i : Int) == (b : Int)) = false := by simp; omega
        go_wp2
        go_ret
        exact ⟨false, rfl, HSJ.out⟩
end
end Go.Proofs.YtcccdlmngddalaaGreat
namespace Go.Proofs.YtcccdlmngddalaaGreat
open Go.RowKit Go.Sort Go.Shelf Go.Lib
theorem xsSz : (Tryz.prog.info? 195).map (·.size) = some 1 := by kernel_rfl
theorem Tryz.sortFSx : SlLaysF0.n6 Tryz.prog Tryz.sortFS_ren := { Tryz.sortFS with }
theorem nextS {w : World} {x X : Nat} (hb : Blk w x 195 [.int .u64 (X : Int)]) (hX : X < 18446744073709551616) : Calls Tryz.prog 174 #[.pointer (some ⟨x, 0, none⟩)] w fun e w' => ∃ Y : Nat, Y < 18446744073709551616 ∧ e = .returned (.int .u64 (Y : Int)) ∧ Blk w' x 195 [.int .u64 (Y : Int)] ∧ Mod (fun k => k = x) w w' := by
  refine (AnyF.xorshift_Next (P := Tryz.prog) (ρ := Tryz.sortFS_ren) { Tryz.sortFSx with } x 0 X hX w (hb.cell rfl) (hb.free 0)).mono ?_
  rintro e w' ⟨rfl, rfl⟩
  exact ⟨_, Go.Sort.xorNextN_lt X hX, rfl, (hb.set 0 _), ((((Mod.refl (fun k => k = x) w).setCell (p := ⟨x, 0, none⟩) (.inl rfl) _)).drew.drew.drew)⟩
theorem npS (L : Nat) (hL : 0 < L) (hL2 : L ≤ 49) (w : World) : Calls Tryz.prog 173 #[.int .i64 (L : Int)] w fun e w' => (∃ M : Nat, 1 ≤ M ∧ M ≤ 2 * L ∧ e = .returned (.int .u64 (M : Int))) ∧ w' = w := by
  refine (AnyF.nextPowerOfTwo (P := Tryz.prog) (ρ := Tryz.sortFS_ren) { Tryz.sortFSx with } L (by omega) w).mono ?_
  rintro e w' ⟨rfl, rfl⟩
  refine ⟨⟨_, ?_, ?_, rfl⟩, rfl⟩
  · rw [Nat.one_shiftLeft]; exact Nat.two_pow_pos _
  · rw [Nat.one_shiftLeft]; exact two_pow_bitsLen_le hL
section
variable {c g n cap : Nat} {ss0 : List ByteArray} {w0 : World}
set_option maxRecDepth 100000 in
set_option maxHeartbeats 4000000 in
theorem bkpS (HC : Hid (SCx c g n cap ss0 w0)) {W : World} (hS : Srd g n cap ss0 w0 W) (a b : Nat) (hab : a + 12 < b) (hb : b ≤ n) :
    Calls Tryz.prog 179 #[.slice (some ⟨g, 0, none⟩) n cap, .int .i64 (a : Int), .int .i64 (b : Int), .func (.func 102) #[.pointer (some ⟨c, 0, none⟩)] #[]] W fun e W' => e = .returned (.tuple #[]) ∧ Srd g n cap ss0 w0 W' := by
  have hn4 := HC.out.n4
  obtain ⟨L, hL⟩ : ∃ q : Nat, q = b - a := ⟨_, rfl⟩
  have H_L := Lib.hid hL
  have e_L : (b : Int) - (a : Int) = (L : Int) := by omega
  have w_L : IntKind.i64.wrap (L : Int) = (L : Int) := IntWalk.i64_in _ (by omega)
  clear hL
  obtain ⟨q4, hq4⟩ : ∃ q : Nat, q = L / 4 := ⟨_, rfl⟩
  have H_q4 := Lib.hid hq4
  have w_q4 : IntKind.i64.wrap (q4 : Int) = (q4 : Int) := IntWalk.i64_in _ (by omega)
  clear hq4
  have e_q4 : ((L : Nat) : Int).tdiv 4 = (q4 : Int) := by rw [H_q4.out]; exact Int.ofNat_tdiv L 4 |>.symm
  have hq4 : 3 ≤ q4 ∧ 4 * q4 ≤ L := by have h1 := H_q4.out; have h2 := H_L.out; omega
  have hL : a + L ≤ b ∧ b ≤ a + L := by have h2 := H_L.out; omega
  obtain ⟨m2, hm2⟩ : ∃ q : Nat, q = q4 * 2 := ⟨_, rfl⟩
  have H_m2 := Lib.hid hm2
  have e_m2 : (q4 : Int) * 2 = (m2 : Int) := by omega
  have w_m2 : IntKind.i64.wrap (m2 : Int) = (m2 : Int) := IntWalk.i64_in _ (by omega)
  clear hm2
  have hm2 : m2 ≤ 2 * q4 := by have h1 := H_m2.out; omega
  obtain ⟨x0, hx0⟩ : ∃ q : Nat, q = a + m2 := ⟨_, rfl⟩
  have H_x0 := Lib.hid hx0
  have e_x0 : (a : Int) + (m2 : Int) = (x0 : Int) := by omega
  have w_x0 : IntKind.i64.wrap (x0 : Int) = (x0 : Int) := IntWalk.i64_in _ (by omega)
  have l_x0 : x0 < n := by omega
  have k_x0 : (x0 : Int) < (n : Int) := by omega
  clear hx0
  have hx0 : a + m2 ≤ x0 ∧ x0 ≤ a + m2 := by have h1 := H_x0.out; omega
  have hm2' : 6 ≤ m2 := by have h1 := H_m2.out; omega
  obtain ⟨i0, hi0⟩ : ∃ q : Nat, q = x0 - 1 := ⟨_, rfl⟩
  have H_i0 := Lib.hid hi0
  have e_i0 : (x0 : Int) - 1 = (i0 : Int) := by omega
  have w_i0 : IntKind.i64.wrap (i0 : Int) = (i0 : Int) := IntWalk.i64_in _ (by omega)
  have l_i0 : i0 < n := by omega
  have k_i0 : (i0 : Int) < (n : Int) := by omega
  clear hi0
  obtain ⟨i1, hi1⟩ : ∃ q : Nat, q = x0 + 1 := ⟨_, rfl⟩
  have H_i1 := Lib.hid hi1
  have e_i1 : (x0 : Int) + 1 = (i1 : Int) := by omega
  have w_i1 : IntKind.i64.wrap (i1 : Int) = (i1 : Int) := IntWalk.i64_in _ (by omega)
  have l_i1 : i1 < n := by omega
  have k_i1 : (i1 : Int) < (n : Int) := by omega
  clear hi1
  have hi01 : i0 + 1 ≤ x0 ∧ x0 ≤ i0 + 1 ∧ i1 ≤ x0 + 1 ∧ x0 + 1 ≤ i1 := by have h1 := H_i0.out; have h2 := H_i1.out; omega
  have hL8 : (8 : Int) ≤ (L : Int) := by omega
  have uL : IntKind.u64.wrap (L : Int) = (L : Int) := by simp [IntKind.wrap, IntKind.bits, IntKind.signed]; omega
  have hqg : W.heap.size ≠ g := by
    obtain ⟨ss, _, h2, _⟩ := hS
    obtain ⟨a', cap', e1, _, _, hg⟩ := Row.form h2
    obtain ⟨g', e2, _, hlt, _⟩ := hg (by omega)
    simp only [Value.slice.injEq] at e1
    obtain ⟨e1, -, -⟩ := e1
    rw [← e1] at e2
    simp only [Option.some.injEq, Addr.mk.injEq] at e2
    omega
  have hq0 : w0.heap.size ≤ W.heap.size := by
    obtain ⟨ss, _, _, h3⟩ := hS
    exact h3.size
  have HX0 : Hid (Blk (W.alloc (.cells #[.int .u64 0] 195 (0, 0))) W.heap.size 195 [.int .u64 0]) := Lib.hid (Blk.new W _ [.int .u64 0])
  have HS0 := Lib.hid (hS.calm ((Mod.refl _ _).alloc (.cells #[.int .u64 0] 195 (0, 0))))
  have HBX0 := Lib.hid (And.intro hqg hq0)
  clear hS hqg hq0
  go_enter Tryz.func179, Tryz.ntmps179
  go_wp2_with (refine wpList_store_blk1 rfl 195 _ _ rfl W.heap.size 0 195 _ (.int .u64 (L : Int)) rfl (by go_simp) HX0.out (by simp) xsSz rfl ?_; intro W1 HX1 HM1)
  have HS1 := Lib.hid (HS0.out.aside HM1.out HBX0.out.1 HBX0.out.2)
  obtain ⟨bx, hbx⟩ : ∃ bx, bx = W.heap.size := ⟨_, rfl⟩
  have HX1' : Hid (Blk W1 bx 195 [.int .u64 (L : Int)]) := Lib.hid (by rw [hbx]; exact HX1.out)
  have HBX : Hid (bx ≠ g ∧ w0.heap.size ≤ bx) := Lib.hid (by rw [hbx]; exact HBX0.out)
  clear HX0 HS0 HM1 HX1
  refine (npS L (by omega) (by omega) _).mono ?_
  rintro e w' ⟨⟨M, hM1, hM2, rfl⟩, rfl⟩
  obtain ⟨m1, hm1⟩ : ∃ q : Nat, q = M - 1 := ⟨_, rfl⟩
  have H_m1 := Lib.hid hm1
  have e_m1 : (M : Int) - 1 = (m1 : Int) := by omega
  have u_m1 : IntKind.u64.wrap (m1 : Int) = (m1 : Int) := by simp [IntKind.wrap, IntKind.bits, IntKind.signed]; omega
  have hm12 : m1 < 2 * L := by omega
  clear hm1
  go_wp2_with fail
  rw [← hbx]
  have HBE := Lib.hid hbx
  clear hbx
  go_loopw [11] (fun iv wr => ∃ i X : Nat, i0 ≤ i ∧ i ≤ i1 + 1 ∧ iv = .int .i64 (i : Int) ∧ X < 18446744073709551616 ∧ Blk wr bx 195 [.int .u64 (X : Int)] ∧ Srd g n cap ss0 w0 wr) (fun iv _ => i1 + 2 - (intOf iv).toNat)
  case atStart => exact ⟨i0, L, by omega, by omega, rfl, by omega, HX1'.out, HS1.out⟩
  case round =>
    clear HX1' HS1
    obtain ⟨i, X, hi0, hi1, rfl, hX, hbx, hs⟩ := hrel
    have HSI := Lib.hid hs
    have HXI := Lib.hid hbx
    clear hs hbx
    by_cases hii : i ≤ i1
    · have qii : (i : Int) ≤ (i1 : Int) := by omega
      have hin : i < n := by omega
      have qin : (i : Int) < (n : Int) := by omega
      go_wp2_with fail
      refine (nextS HXI.out hX).mono ?_
      rintro e W2 ⟨Y, hY, rfl, hb2, hm2⟩
      have HX2 := Lib.hid hb2
      have hs2 := HSI.out.aside hm2 HBX.out.1 HBX.out.2
      clear hb2 hm2 HSI HXI
      obtain ⟨O, hO⟩ : ∃ O : Nat, O = Y &&& m1 := ⟨_, rfl⟩
      have hO1 : O ≤ m1 := by rw [hO]; exact Nat.and_le_right
      have e_O : bits .and .u64 (Y : Int) (m1 : Int) = (O : Int) := by rw [bits_and_u64_nat _ _ hY (by omega), hO]
      have w_O : IntKind.i64.wrap (O : Int) = (O : Int) := IntWalk.i64_in _ (by omega)
      clear hO
      by_cases hLO : L ≤ O
      · have qLO : (L : Int) ≤ (O : Int) := by omega
        obtain ⟨o2, ho2⟩ : ∃ q : Nat, q = O - L := ⟨_, rfl⟩
        have H_o2 := Lib.hid ho2
        have e_o2 : (O : Int) - (L : Int) = (o2 : Int) := by omega
        have w_o2 : IntKind.i64.wrap (o2 : Int) = (o2 : Int) := IntWalk.i64_in _ (by omega)
        clear ho2
        have ho2 : o2 < L := by have := H_o2.out; omega
        go_wp2_with fail
        obtain ⟨p, hp⟩ : ∃ q : Nat, q = a + o2 := ⟨_, rfl⟩
        have H_p := Lib.hid hp
        have e_p : (a : Int) + (o2 : Int) = (p : Int) := by omega
        have w_p : IntKind.i64.wrap (p : Int) = (p : Int) := IntWalk.i64_in _ (by omega)
        have l_p : p < n := by omega
        have k_p : (p : Int) < (n : Int) := by omega
        clear hp
        obtain ⟨ssA, hpA, hrA, hmA⟩ := hs2
        obtain ⟨xA, hxA⟩ : ∃ x, ssA[i]? = some x := ⟨_, List.getElem?_eq_getElem (by rw [Srt.len hrA]; omega)⟩
        obtain ⟨yA, hyA⟩ : ∃ x, ssA[p]? = some x := ⟨_, List.getElem?_eq_getElem (by rw [Srt.len hrA]; omega)⟩
        have hSA : W2.drew.cell? ⟨g, i, none⟩ = some (.string xA) ∧ W2.drew.cell? ⟨g, p, none⟩ = some (.string yA) := ⟨Srt.cell hrA hxA, Srt.cell hrA hyA⟩
        have HPA := Lib.hid hpA
        have HRA := Lib.hid hrA
        have HMA := Lib.hid hmA
        have HXA := Lib.hid hxA
        have HYA := Lib.hid hyA
        clear hpA hrA hmA hxA hyA
        refine wp_region_plan [17, 19] [(0, 0), (1, 0), (2, 0), (3, 0), (4, 0), (5, 0), (6, 0), (7, 0), (8, 0), (9, 0), (10, 0), (11, 1), (12, 0), (13, 0), (14, 0), (15, 1), (16, 0), (17, 3), (18, 0), (19, 3)] (fun w' : World => w'.cell? ⟨g, i, none⟩ = some (.string xA) ∧ w'.cell? ⟨g, p, none⟩ = some (.string yA)) (by kernel_rfl) (by kernel_rfl) (fun d v c a w h => by first | (cases d <;> exact h) | exact HP d v c a w h) ?_
        repeat ((first | refine plan_skip rfl rfl ?_ | refine plan_pass2 rfl rfl ?_ | refine plan_pass3 rfl rfl ?_ | (refine plan_take (v := ?_) rfl rfl ?_ ?_; rotate_left; focus (intro w0; go_simp; try with_reducible rfl)) | (refine plan_held (v := ?_) rfl rfl hSA ?_ ?_; rotate_left; focus (intro w0 hSw; (try dsimp only at hSw); go_split_ands; go_simp; try with_reducible rfl)) | refine plan_skip1 rfl rfl hSA ?_); simp only [nA, nB, nC, Act.put, nD, nE, nF])
        (refine plan_end rfl rfl rfl fun K hK => ?_; (try simp only [nA, nB, nC]))
        refine wp_store_row1 9 _ _ rfl (Row.drew HRA.out) g (i) (.string yA) rfl rfl rfl (by rw [Srt.len' HRA.out]; omega) sSz rfl ?_
        intro W3 HR3 HM3
        refine hK _ _ ?_
        clear hK K hSA
        try simp only [nA, nB, nC, Act.put, nD, nE, nF]
        repeat ((first | refine plan_skip rfl rfl ?_ | refine plan_pass2 rfl rfl ?_ | refine plan_pass3 rfl rfl ?_ | (refine plan_take (v := ?_) rfl rfl ?_ ?_; rotate_left; focus (intro w0; go_simp; try with_reducible rfl))); simp only [nA, nB, nC, Act.put, nD, nE, nF])
        (refine plan_end rfl rfl rfl fun K hK => ?_; (try simp only [nA, nB, nC]))
        refine wp_store_row1 9 _ _ rfl HR3.out g (p) (.string xA) rfl rfl rfl (by rw [List.length_set, Srt.len' HRA.out]; omega) sSz rfl ?_
        intro W4 HR4 HM4
        refine hK _ _ ?_
        clear hK K
        try simp only [nA, nB, nC, Act.put, nD, nE, nF]
        refine plan_nil ?_
        have hs4 : Srd g n cap ss0 w0 W4 := Srt.swap HPA.out HRA.out HMA.out HXA.out HYA.out HR4.out (((Mod.refl _ _).drew.trans HM3.out fun q hq => .inl hq).trans HM4.out fun q hq => .inl hq)
        have HX4 : Hid (Blk W4 bx 195 [.int .u64 (Y : Int)]) := Lib.hid ((Blk.keep (Blk.keep HX2.out.drew HM3.out fun e => HBX.out.1 e) HM4.out fun e => HBX.out.1 e))
        clear HPA HRA HMA HXA HYA HR3 HM3 HR4 HM4
        have HS4 := Lib.hid hs4
        clear hs4
        go_wp2
        go_roundw
        case rel => exact ⟨i + 1, Y, by omega, by omega, by go_num, hY, HX4.out, HS4.out⟩
        case measure => simp [intOf]; omega
      · have qLO : ¬ (L : Int) ≤ (O : Int) := by omega
        go_wp2_with fail
        obtain ⟨p, hp⟩ : ∃ q : Nat, q = a + O := ⟨_, rfl⟩
        have H_p := Lib.hid hp
        have e_p : (a : Int) + (O : Int) = (p : Int) := by omega
        have w_p : IntKind.i64.wrap (p : Int) = (p : Int) := IntWalk.i64_in _ (by omega)
        have l_p : p < n := by omega
        have k_p : (p : Int) < (n : Int) := by omega
        clear hp
        obtain ⟨ssA, hpA, hrA, hmA⟩ := hs2
        obtain ⟨xA, hxA⟩ : ∃ x, ssA[i]? = some x := ⟨_, List.getElem?_eq_getElem (by rw [Srt.len hrA]; omega)⟩
        obtain ⟨yA, hyA⟩ : ∃ x, ssA[p]? = some x := ⟨_, List.getElem?_eq_getElem (by rw [Srt.len hrA]; omega)⟩
        have hSA : W2.drew.cell? ⟨g, i, none⟩ = some (.string xA) ∧ W2.drew.cell? ⟨g, p, none⟩ = some (.string yA) := ⟨Srt.cell hrA hxA, Srt.cell hrA hyA⟩
        have HPA := Lib.hid hpA
        have HRA := Lib.hid hrA
        have HMA := Lib.hid hmA
        have HXA := Lib.hid hxA
        have HYA := Lib.hid hyA
        clear hpA hrA hmA hxA hyA
        refine wp_region_plan [17, 19] [(0, 0), (1, 0), (2, 0), (3, 0), (4, 0), (5, 0), (6, 0), (7, 0), (8, 0), (9, 0), (10, 0), (11, 1), (12, 0), (13, 0), (14, 0), (15, 1), (16, 0), (17, 3), (18, 0), (19, 3)] (fun w' : World => w'.cell? ⟨g, i, none⟩ = some (.string xA) ∧ w'.cell? ⟨g, p, none⟩ = some (.string yA)) (by kernel_rfl) (by kernel_rfl) (fun d v c a w h => by first | (cases d <;> exact h) | exact HP d v c a w h) ?_
        repeat ((first | refine plan_skip rfl rfl ?_ | refine plan_pass2 rfl rfl ?_ | refine plan_pass3 rfl rfl ?_ | (refine plan_take (v := ?_) rfl rfl ?_ ?_; rotate_left; focus (intro w0; go_simp; try with_reducible rfl)) | (refine plan_held (v := ?_) rfl rfl hSA ?_ ?_; rotate_left; focus (intro w0 hSw; (try dsimp only at hSw); go_split_ands; go_simp; try with_reducible rfl)) | refine plan_skip1 rfl rfl hSA ?_); simp only [nA, nB, nC, Act.put, nD, nE, nF])
        (refine plan_end rfl rfl rfl fun K hK => ?_; (try simp only [nA, nB, nC]))
        refine wp_store_row1 9 _ _ rfl (Row.drew HRA.out) g (i) (.string yA) rfl rfl rfl (by rw [Srt.len' HRA.out]; omega) sSz rfl ?_
        intro W3 HR3 HM3
        refine hK _ _ ?_
        clear hK K hSA
        try simp only [nA, nB, nC, Act.put, nD, nE, nF]
        repeat ((first | refine plan_skip rfl rfl ?_ | refine plan_pass2 rfl rfl ?_ | refine plan_pass3 rfl rfl ?_ | (refine plan_take (v := ?_) rfl rfl ?_ ?_; rotate_left; focus (intro w0; go_simp; try with_reducible rfl))); simp only [nA, nB, nC, Act.put, nD, nE, nF])
        (refine plan_end rfl rfl rfl fun K hK => ?_; (try simp only [nA, nB, nC]))
        refine wp_store_row1 9 _ _ rfl HR3.out g (p) (.string xA) rfl rfl rfl (by rw [List.length_set, Srt.len' HRA.out]; omega) sSz rfl ?_
        intro W4 HR4 HM4
        refine hK _ _ ?_
        clear hK K
        try simp only [nA, nB, nC, Act.put, nD, nE, nF]
        refine plan_nil ?_
        have hs4 : Srd g n cap ss0 w0 W4 := Srt.swap HPA.out HRA.out HMA.out HXA.out HYA.out HR4.out (((Mod.refl _ _).drew.trans HM3.out fun q hq => .inl hq).trans HM4.out fun q hq => .inl hq)
        have HX4 : Hid (Blk W4 bx 195 [.int .u64 (Y : Int)]) := Lib.hid ((Blk.keep (Blk.keep HX2.out.drew HM3.out fun e => HBX.out.1 e) HM4.out fun e => HBX.out.1 e))
        clear HPA HRA HMA HXA HYA HR3 HM3 HR4 HM4
        have HS4 := Lib.hid hs4
        clear hs4
        go_wp2
        go_roundw
        case rel => exact ⟨i + 1, Y, by omega, by omega, by go_num, hY, HX4.out, HS4.out⟩
        case measure => simp [intOf]; omega
    · have qii : ¬ (i : Int) ≤ (i1 : Int) := by omega
      go_wp2
      go_end0
      exact ⟨rfl, HSI.out⟩
end
end Go.Proofs.YtcccdlmngddalaaGreat
namespace Go.Proofs.YtcccdlmngddalaaGreat
open Go.RowKit
section
variable {c g n cap : Nat} {ss0 : List ByteArray} {w0 : World}
set_option maxRecDepth 100000 in
set_option maxHeartbeats 4000000 in
theorem pdq_step (HC : Hid (SCx c g n cap ss0 w0)) (D : Nat) (IH : Hid (∀ (W : World) (a b l : Nat), Srd g n cap ss0 w0 W → a ≤ b → b ≤ n → b - a < D → l ≤ 64 → Calls Tryz.prog 168 #[.slice (some ⟨g, 0, none⟩) n cap, .int .i64 (a : Int), .int .i64 (b : Int), .int .i64 (l : Int), .func (.func 102) #[.pointer (some ⟨c, 0, none⟩)] #[]] W fun e W' => e = .returned (.tuple #[]) ∧ Srd g n cap ss0 w0 W'))
    {W : World} (hS : Srd g n cap ss0 w0 W) (a b l : Nat) (hab : a ≤ b) (hb : b ≤ n) (hD : b - a ≤ D) (hl : l ≤ 64) :
    Calls Tryz.prog 168 #[.slice (some ⟨g, 0, none⟩) n cap, .int .i64 (a : Int), .int .i64 (b : Int), .int .i64 (l : Int), .func (.func 102) #[.pointer (some ⟨c, 0, none⟩)] #[]] W fun e W' => e = .returned (.tuple #[]) ∧ Srd g n cap ss0 w0 W' := by
  have hn4 := HC.out.n4
  have HS := Lib.hid hS
  clear hS
  go_enter Tryz.func168, Tryz.ntmps168
  go_wp2_with fail
  go_loopw [1, 2, 3, 10, 11] (fun av bv lv xv yv wr => ∃ (a b l : Nat) (x y : Bool), a ≤ b ∧ b ≤ n ∧ b - a ≤ D ∧ l ≤ 64 ∧ av = .int .i64 (a : Int) ∧ bv = .int .i64 (b : Int) ∧ lv = .int .i64 (l : Int) ∧ xv = .bool x ∧ yv = .bool y ∧ Srd g n cap ss0 w0 wr) (fun av bv _ _ _ _ => (intOf bv - intOf av).toNat)
  case atStart => exact ⟨a, b, l, true, true, hab, hb, hD, hl, rfl, rfl, rfl, rfl, rfl, HS.out⟩
  case round =>
    clear HS hab hb hD hl
    obtain ⟨a, b, l, x, y, hab, hb, hD, hl, rfl, rfl, rfl, rfl, rfl, hs⟩ := hrel
    have HSI := Lib.hid hs
    clear hs
    obtain ⟨L, hL⟩ : ∃ q : Nat, q = b - a := ⟨_, rfl⟩
    have H_L := Lib.hid hL
    have e_L : (b : Int) - (a : Int) = (L : Int) := by omega
    have w_L : IntKind.i64.wrap (L : Int) = (L : Int) := IntWalk.i64_in _ (by omega)
    clear hL
    have hL : a + L ≤ b ∧ b ≤ a + L := by have := H_L.out; omega
    by_cases h12 : L ≤ 12
    · have q12 : (L : Int) ≤ 12 := by omega
      go_wp2_with fail
      refine (insS HC HSI.out a b hab hb).mono ?_
      rintro e W1 ⟨rfl, hs1⟩
      have HS1 := Lib.hid hs1
      clear hs1
      go_wp2
      refine bodyPost_ret (results_none rfl _ _ _) rfl ?_
      exact ⟨rfl, HS1.out⟩
    · have q12 : ¬ (L : Int) ≤ 12 := by omega
      by_cases hl0 : l = 0
      · subst hl0
        go_wp2_with fail
        refine (hpsS HC HSI.out a b (by omega) hb).mono ?_
        rintro e W1 ⟨rfl, hs1⟩
        have HS1 := Lib.hid hs1
        clear hs1
        go_wp2
        refine bodyPost_ret (results_none rfl _ _ _) rfl ?_
        exact ⟨rfl, HS1.out⟩
      · have hl1 : ¬ (l : Int) = 0 := by omega
        have hl2 : ((l : Int) == 0) = false := by simp [hl0]
        obtain ⟨lp, hlp⟩ : ∃ q : Nat, q = l - 1 := ⟨_, rfl⟩
        have H_lp := Lib.hid hlp
        have e_lp : (l : Int) - 1 = (lp : Int) := by omega
        have w_lp : IntKind.i64.wrap (lp : Int) = (lp : Int) := IntWalk.i64_in _ (by omega)
        clear hlp
        go_upto_if 39 with fail
        go_cut [3] from 40 to 47 (fun lv wx => ∃ l' : Nat, l' ≤ 64 ∧ lv = .int .i64 (l' : Int) ∧ Srd g n cap ss0 w0 wx)
        case first =>
          cases x with
          | true =>
            go_wp2_with fail
            go_meet
            exact ⟨l, hl, rfl, HSI.out⟩
          | false =>
            go_wp2_with fail
            refine (bkpS HC HSI.out a b (by omega) hb).mono ?_
            rintro e W1 ⟨rfl, hs1⟩
            have HS1 := Lib.hid hs1
            clear hs1
            go_wp2_with fail
            go_meet
            exact ⟨lp, by have := H_lp.out; omega, rfl, HS1.out⟩
        case rest =>
          rename World => wA
          clear HSI
          obtain ⟨l', hl', rfl, hs⟩ := hcut
          have HSA := Lib.hid hs
          clear hs
          go_wp2_with fail
          refine (pivS HC HSA.out a b (by omega) hb).mono ?_
          rintro e W1 ⟨p, h, hpa, hpb, rfl, hs1⟩
          have HS1 := Lib.hid hs1
          clear hs1 HSA
          go_upto_if 56 with fail
          go_cut [13, 14] from 57 to 68 (fun pv hv wx => ∃ (p' : Nat) (h' : Int), a ≤ p' ∧ p' < b ∧ pv = .int .i64 (p' : Int) ∧ hv = .int .i64 h' ∧ Srd g n cap ss0 w0 wx)
          case first =>
            by_cases hh : h = 2
            · subst hh
              obtain ⟨b1, hb1⟩ : ∃ q : Nat, q = b - 1 := ⟨_, rfl⟩
              have H_b1 := Lib.hid hb1
              have e_b1 : (b : Int) - 1 = (b1 : Int) := by omega
              have w_b1 : IntKind.i64.wrap (b1 : Int) = (b1 : Int) := IntWalk.i64_in _ (by omega)
              clear hb1
              obtain ⟨pa, hpa⟩ : ∃ q : Nat, q = p - a := ⟨_, rfl⟩
              have H_pa := Lib.hid hpa
              have e_pa : (p : Int) - (a : Int) = (pa : Int) := by omega
              have w_pa : IntKind.i64.wrap (pa : Int) = (pa : Int) := IntWalk.i64_in _ (by omega)
              clear hpa
              have hb1 : b1 + 1 ≤ b ∧ b ≤ b1 + 1 ∧ pa + a ≤ p ∧ p ≤ pa + a := by have := H_b1.out; have := H_pa.out; omega
              obtain ⟨pp, hpp⟩ : ∃ q : Nat, q = b1 - pa := ⟨_, rfl⟩
              have H_pp := Lib.hid hpp
              have e_pp : (b1 : Int) - (pa : Int) = (pp : Int) := by omega
              have w_pp : IntKind.i64.wrap (pp : Int) = (pp : Int) := IntWalk.i64_in _ (by omega)
              clear hpp
              go_wp2_with fail
              refine (revS HC HS1.out a b (by omega) hb).mono ?_
              rintro e W2 ⟨rfl, hs2⟩
              have HS2 := Lib.hid hs2
              clear hs2
              go_wp2_with fail
              go_meet
              exact ⟨pp, 1, by have := H_pp.out; omega, by have := H_pp.out; omega, rfl, rfl, HS2.out⟩
            · have hh2 : (h == 2) = false := by simp [hh]
              go_wp2_with fail
              go_meet
              exact ⟨p, h, hpa, hpb, rfl, rfl, HS1.out⟩
          case rest =>
            rename World => wB
            clear HS1 hpa hpb
            obtain ⟨p, h, hpa, hpb, rfl, rfl, hs⟩ := hcut
            have HSB := Lib.hid hs
            clear hs
            go_upto_region 15 with fail
            go_cut [75] from 68 to 76 (fun v wx => ∃ z : Bool, v = .bool z ∧ Srd g n cap ss0 w0 wx)
            case first =>
              cases x <;> cases y <;> (go_wp2_with fail; go_meet; exact ⟨_, rfl, HSB.out⟩)
            case rest =>
              rename World => wC
              clear HSB
              obtain ⟨z, rfl, hs⟩ := hcut
              have HSC := Lib.hid hs
              clear hs
              go_upto_if 75 with fail
              go_cut [] from 76 to 81 (fun wx => Srd g n cap ss0 w0 wx)
              case first =>
                cases z with
                | false =>
                  go_wp2_with fail
                  go_meet
                  exact HSC.out
                | true =>
                  go_wp2_with fail
                  refine (pisS HC HSC.out a b (by omega) hb).mono ?_
                  rintro e W2 ⟨z2, rfl, hs2⟩
                  have HS2 := Lib.hid hs2
                  clear hs2
                  cases z2 with
                  | true =>
                    go_wp2
                    refine bodyPost_ret (results_none rfl _ _ _) rfl ?_
                    exact ⟨rfl, HS2.out⟩
                  | false =>
                    go_wp2_with fail
                    go_meet
                    exact HS2.out
              case rest =>
                rename World => wD
                clear HSC
                have hs := hcut
                clear hcut
                have hpn : p < n := by omega
                have qpn : (p : Int) < (n : Int) := by omega
                go_upto_region 17 with fail
                go_cut [97] from 81 to 98 (fun v wx => ∃ z : Bool, v = .bool z ∧ Srd g n cap ss0 w0 wx)
                case first =>
                  by_cases ha0 : 0 < a
                  · have q4 : decide ((a : Int) > 0) = true := decide_eq_true (by omega)
                    have q3 : (a : Int) > 0 := by omega
                    obtain ⟨am, ham⟩ : ∃ q : Nat, q = a - 1 := ⟨_, rfl⟩
                    have H_am := Lib.hid ham
                    have e_am : (a : Int) - 1 = (am : Int) := by omega
                    have w_am : IntKind.i64.wrap (am : Int) = (am : Int) := IntWalk.i64_in _ (by omega)
                    have l_am : am < n := by omega
                    have k_am : (am : Int) < (n : Int) := by omega
                    clear ham
                    obtain ⟨ssA, hpA, hrA, hmA⟩ := hs
                    obtain ⟨xA, hxA⟩ : ∃ x, ssA[am]? = some x := ⟨_, List.getElem?_eq_getElem (by rw [Srt.len hrA]; omega)⟩
                    obtain ⟨yA, hyA⟩ : ∃ x, ssA[p]? = some x := ⟨_, List.getElem?_eq_getElem (by rw [Srt.len hrA]; omega)⟩
                    have hSA : wD.drew.cell? ⟨g, am, none⟩ = some (.string xA) ∧ wD.drew.cell? ⟨g, p, none⟩ = some (.string yA) := ⟨Srt.cell hrA hxA, Srt.cell hrA hyA⟩
                    have hcA := HC.out.cmp wD.drew xA yA hmA.drew (hpA.mem_iff.1 (List.mem_of_getElem? hxA)) (hpA.mem_iff.1 (List.mem_of_getElem? hyA))
                    have HSA := Lib.hid (Srt.mk' hpA hrA hmA)
                    have HCA := Lib.hid hcA
                    clear hpA hrA hmA hxA hyA hcA
                    refine wp_region_plan [13] [(0, 0), (1, 0), (2, 0), (3, 0), (4, 0), (5, 0), (6, 0), (7, 0), (8, 1), (9, 0), (10, 0), (11, 0), (12, 1), (13, 3), (14, 0), (15, 0), (16, 0)] (fun w' : World => w'.cell? ⟨g, am, none⟩ = some (.string xA) ∧ w'.cell? ⟨g, p, none⟩ = some (.string yA)) (by kernel_rfl) (by kernel_rfl) (fun d v c a w h => by first | (cases d <;> exact h) | exact HP d v c a w h) ?_
                    repeat ((first | refine plan_skip rfl rfl ?_ | refine plan_pass2 rfl rfl ?_ | refine plan_pass3 rfl rfl ?_ | (refine plan_take (v := ?_) rfl rfl ?_ ?_; rotate_left; focus (intro w0; go_simp; try with_reducible rfl)) | (refine plan_held (v := ?_) rfl rfl hSA ?_ ?_; rotate_left; focus (intro w0 hSw; (try dsimp only at hSw); go_split_ands; go_simp; try with_reducible rfl)) | refine plan_skip1 rfl rfl hSA ?_); simp only [nA, nB, nC, Act.put, nD, nE, nF])
                    (refine plan_end rfl rfl rfl fun K hK => ?_; (try simp only [nA, nB, nC]))
                    go_simp
                    refine HCA.out.mono ?_
                    rintro e W2 ⟨⟨rA, rfl⟩, hmA⟩
                    have hs2 : Srd g n cap ss0 w0 W2 := HSA.out.calm ((Mod.refl _ _).drew.trans hmA fun _ f => f.elim)
                    refine hK _ _ ?_
                    clear hK K hSA HSA HCA hmA
                    try simp only [nA, nB, nC, Act.put, nD, nE, nF]
                    have HS2 := Lib.hid hs2
                    clear hs2
                    by_cases hr : rA < 0
                    · have hd : decide (rA < 0) = true := decide_eq_true hr
                      repeat ((first | refine plan_skip rfl rfl ?_ | refine plan_pass2 rfl rfl ?_ | refine plan_pass3 rfl rfl ?_ | (refine plan_take (v := ?_) rfl rfl ?_ ?_; rotate_left; focus (intro w0; go_simp; try with_reducible rfl))); simp only [nA, nB, nC, Act.put, nD, nE, nF])
                      refine plan_nil ?_
                      go_wp2_with fail
                      go_meet
                      exact ⟨_, rfl, HS2.out⟩
                    · have hd : decide (rA < 0) = false := decide_eq_false hr
                      repeat ((first | refine plan_skip rfl rfl ?_ | refine plan_pass2 rfl rfl ?_ | refine plan_pass3 rfl rfl ?_ | (refine plan_take (v := ?_) rfl rfl ?_ ?_; rotate_left; focus (intro w0; go_simp; try with_reducible rfl))); simp only [nA, nB, nC, Act.put, nD, nE, nF])
                      refine plan_nil ?_
                      go_wp2_with fail
                      go_meet
                      exact ⟨_, rfl, HS2.out⟩
                  · have q4 : decide ((a : Int) > 0) = false := decide_eq_false (by omega)
                    have q3 : ¬ (a : Int) > 0 := by omega
                    have HS2 := Lib.hid hs.drew
                    clear hs
                    refine wp_region_plan [13] [(0, 0), (1, 0), (2, 0), (3, 0), (4, 0), (5, 0), (6, 0), (7, 0), (8, 1), (9, 0), (10, 0), (11, 0), (12, 1), (13, 3), (14, 0), (15, 0), (16, 0)] (fun w' : World => True) (by kernel_rfl) (by kernel_rfl) (fun d v c a w h => by first | (cases d <;> exact h) | exact HP d v c a w h) ?_
                    repeat ((first | refine plan_skip rfl rfl ?_ | refine plan_pass2 rfl rfl ?_ | refine plan_pass3 rfl rfl ?_ | (refine plan_take (v := ?_) rfl rfl ?_ ?_; rotate_left; focus (intro w0; go_simp; try with_reducible rfl)) | (refine plan_held (v := ?_) rfl rfl trivial ?_ ?_; rotate_left; focus (intro w0 hSw; (try dsimp only at hSw); go_split_ands; go_simp; try with_reducible rfl)) | refine plan_skip1 rfl rfl trivial ?_); simp only [nA, nB, nC, Act.put, nD, nE, nF])
                    refine plan_nil ?_
                    go_wp2_with fail
                    go_meet
                    exact ⟨_, rfl, HS2.out⟩
                case rest =>
                  rename World => wE
                  clear hs
                  obtain ⟨z3, rfl, hs⟩ := hcut
                  have HSE := Lib.hid hs
                  clear hs
                  cases z3 with
                  | true =>
                    go_wp2_with fail
                    refine (peqS HC HSE.out a b p (by omega) hb hpa hpb).mono ?_
                    rintro e W3 ⟨m, hm1, hm2, rfl, hs3⟩
                    have HS3 := Lib.hid hs3
                    clear hs3
                    go_wp2
                    go_roundw
                    case rel => exact ⟨m, b, l', x, y, hm2, hb, by omega, hl', rfl, rfl, rfl, rfl, rfl, HS3.out⟩
                    case measure => simp [intOf]; omega
                  | false =>
                    go_wp2_with fail
                    refine (parS HC HSE.out a b p (by omega) hb hpa hpb).mono ?_
                    rintro e W3 ⟨m, z4, hm1, hm2, rfl, hs3⟩
                    have HS3 := Lib.hid hs3
                    clear hs3
                    obtain ⟨ll, hll⟩ : ∃ q : Nat, q = m - a := ⟨_, rfl⟩
                    have H_ll := Lib.hid hll
                    have e_ll : (m : Int) - (a : Int) = (ll : Int) := by omega
                    have w_ll : IntKind.i64.wrap (ll : Int) = (ll : Int) := IntWalk.i64_in _ (by omega)
                    clear hll
                    obtain ⟨rl, hrl⟩ : ∃ q : Nat, q = b - m := ⟨_, rfl⟩
                    have H_rl := Lib.hid hrl
                    have e_rl : (b : Int) - (m : Int) = (rl : Int) := by omega
                    have w_rl : IntKind.i64.wrap (rl : Int) = (rl : Int) := IntWalk.i64_in _ (by omega)
                    clear hrl
                    obtain ⟨L8, hL8⟩ : ∃ q : Nat, q = L / 8 := ⟨_, rfl⟩
                    have H_L8 := Lib.hid hL8
                    have w_L8 : IntKind.i64.wrap (L8 : Int) = (L8 : Int) := IntWalk.i64_in _ (by omega)
                    clear hL8
                    have e_L8 : ((L : Nat) : Int).tdiv 8 = (L8 : Int) := by rw [H_L8.out]; exact Int.ofNat_tdiv L 8 |>.symm
                    obtain ⟨m1, hm1⟩ : ∃ q : Nat, q = m + 1 := ⟨_, rfl⟩
                    have H_m1 := Lib.hid hm1
                    have e_m1 : (m : Int) + 1 = (m1 : Int) := by omega
                    have w_m1 : IntKind.i64.wrap (m1 : Int) = (m1 : Int) := IntWalk.i64_in _ (by omega)
                    clear hm1
                    have hm1' : m1 ≤ m + 1 ∧ m + 1 ≤ m1 := by have := H_m1.out; omega
                    by_cases hlr : ll < rl
                    · have qlr : (ll : Int) < (rl : Int) := by omega
                      go_wp2_with fail
                      refine (IH.out W3 a m l' HS3.out hm1 (by omega) (by omega) hl').mono ?_
                      rintro e W4 ⟨rfl, hs4⟩
                      have HS4 := Lib.hid hs4
                      clear hs4
                      go_wp2
                      go_roundw
                      case rel => exact ⟨m1, b, l', _, z4, by omega, hb, by omega, hl', rfl, rfl, rfl, rfl, rfl, HS4.out⟩
                      case measure => simp [intOf]; omega
                    · have qlr : ¬ (ll : Int) < (rl : Int) := by omega
                      go_wp2_with fail
                      refine (IH.out W3 m1 b l' HS3.out (by omega) hb (by omega) hl').mono ?_
                      rintro e W4 ⟨rfl, hs4⟩
                      have HS4 := Lib.hid hs4
                      clear hs4
                      go_wp2
                      go_roundw
                      case rel => exact ⟨a, m, l', _, z4, hm1, by omega, by omega, hl', rfl, rfl, rfl, rfl, rfl, HS4.out⟩
                      case measure => simp [intOf]; omega
theorem pdqS (HC : Hid (SCx c g n cap ss0 w0)) : ∀ (D : Nat) (W : World) (a b l : Nat), Srd g n cap ss0 w0 W → a ≤ b → b ≤ n → b - a < D → l ≤ 64 → Calls Tryz.prog 168 #[.slice (some ⟨g, 0, none⟩) n cap, .int .i64 (a : Int), .int .i64 (b : Int), .int .i64 (l : Int), .func (.func 102) #[.pointer (some ⟨c, 0, none⟩)] #[]] W fun e W' => e = .returned (.tuple #[]) ∧ Srd g n cap ss0 w0 W'
  | 0, _, _, _, _, _, _, _, h, _ => absurd h (Nat.not_lt_zero _)
  | D + 1, W, a, b, l, hS, hab, hb, hD, hl => pdq_step HC D (Lib.hid (pdqS HC D)) hS a b l hab hb (by omega) hl
end
end Go.Proofs.YtcccdlmngddalaaGreat
namespace Go.Proofs.YtcccdlmngddalaaGreat
open Go.RowKit Go.Maps Go.Sort Go.Shelf Go.Lib
theorem isNaNs (x : ByteArray) (w : World) : Calls Tryz.prog 153 #[.string x] w fun e w' => e = .returned (.bool false) ∧ w' = w := by
  go_enter Tryz.func153, Tryz.ntmps153
  go_wp2
  go_ret
  exact ⟨by simp, rfl⟩
theorem cmpS_ok (x y : ByteArray) (w : World) : Calls Tryz.prog 137 #[.string x, .string y] w fun e w' => (∃ r : Int, e = .returned (.int .i64 r)) ∧ w' = w := by
  obtain ⟨bo, hgt⟩ : ∃ bo : Bool, ∀ w', (binOp .gtr 9 (.string x) (.string y)).run Tryz.prog w' = .ok (.bool bo) w' := ⟨!(Op.bytesLess x.toList y.toList || x.toList == y.toList), fun w' => by
    rw [show binOp .gtr 9 (.string x) (.string y) = pure (.bool !(Op.bytesLess x.toList y.toList || x.toList == y.toList)) by simp [binOp, Op.stringOp]]
    rfl⟩
  go_enter Tryz.func137, Tryz.ntmps137
  go_wp2_with fail
  refine (isNaNs _ _).mono ?_; rintro e w1 ⟨rfl, rfl⟩
  go_wp2_with fail
  refine (isNaNs _ _).mono ?_; rintro e w2 ⟨rfl, rfl⟩
  go_wp2
  all_goals
    go_ret
    exact ⟨⟨_, rfl⟩, rfl⟩
theorem or2_ok (b : Nat) (x y : Int) (w : World) (h0 : w.cell? ⟨b, 0, none⟩ = some (.int .i64 x)) (h1 : w.cell? ⟨b, 1, none⟩ = some (.int .i64 y)) :
    Calls Tryz.prog 135 #[.slice (some ⟨b, 0, none⟩) 2 2] w fun e w' => (∃ r : Int, e = .returned (.int .i64 r)) ∧ w' = w := by
  go_enter Tryz.func135, Tryz.ntmps135
  go_wp2
  go_loop [8] (fun i => ∃ j : Nat, j ≤ 2 ∧ i = .int .i64 j) (fun i => 2 - (intOf i).toNat)
  case atStart => exact ⟨0, by omega, rfl⟩
  case round =>
    obtain ⟨j, hj, rfl⟩ := hrel
    rcases (show j = 0 ∨ j = 1 ∨ j = 2 by omega) with rfl | rfl | rfl
    · by_cases hx : x = 0
      · have HX := Lib.hid hx
        go_wp2
        go_round
        case rel => exact ⟨1, by omega, by go_num⟩
        case measure => simp [intOf]
      · go_wp2
        go_ret
        exact ⟨⟨_, rfl⟩, rfl⟩
    · by_cases hx : y = 0
      · have HX := Lib.hid hx
        go_wp2
        go_round
        case rel => exact ⟨2, by omega, by go_num⟩
        case measure => simp [intOf]
      · go_wp2
        go_ret
        exact ⟨⟨_, rfl⟩, rfl⟩
    · go_wp2
      go_ret
      exact ⟨⟨_, rfl⟩, rfl⟩
theorem mget_int (k : List UInt8) : ∀ L : List (Ad × Int), ∃ n : Int, (mgetS (enm L) k).getD (.int .i64 0) = .int .i64 n := by
  intro L
  cases h : mgetS (enm L) k with
  | none => exact ⟨0, rfl⟩
  | some v =>
    unfold mgetS at h
    obtain ⟨q, hq, rfl⟩ := Option.map_eq_some_iff.1 h
    obtain ⟨p, _, rfl⟩ := List.mem_map.1 (List.mem_of_find?_eq_some hq)
    exact ⟨p.2, rfl⟩
set_option maxRecDepth 100000 in
set_option maxHeartbeats 1000000 in
theorem before_ok {w : World} {c b : Nat} {T : Ad → Option Int} {L : List (Ad × Int)} (h : ClkAt w c b T L) (x y : List UInt8) :
    Calls Tryz.prog 102 #[.pointer (some ⟨c, 0, none⟩), encStr x, encStr y] w fun e w' => (∃ r : Int, e = .returned (.int .i64 r)) ∧ Mod (fun _ => False) w w' := by
  obtain ⟨n1, hn1⟩ := mget_int x L
  obtain ⟨n2, hn2⟩ := mget_int y L
  have hS : w.drew.cell? ⟨c, 0, none⟩ = some (.map (some b)) ∧ Ms w.drew b (enm L) := ⟨h.blk.cell rfl, h.mp.keep (Mod.refl (fun _ => False) w).drew fun f => f⟩
  have HL1 : Hid (∀ {o : Oper} {ev : Operand → Value} {x' i : Operand}, o.op = .lookup 130 x' i false → ev x' = .map (some b) → ev i = encStr x → ∀ w', Ms w' b (enm L) → (execOp ev o).run Tryz.prog w' = .ok (.value (.int .i64 n1)) w') := Lib.hid fun ho hx' hi w' hm => by
    have := exec_lookup_ms (P := Tryz.prog) Tryz.underlying130 Tryz.underlying9 zeroI ho hx' hi hm
    rw [if_neg (by simp), hn1] at this
    exact this
  have HL2 : Hid (∀ {o : Oper} {ev : Operand → Value} {x' i : Operand}, o.op = .lookup 130 x' i false → ev x' = .map (some b) → ev i = encStr y → ∀ w', Ms w' b (enm L) → (execOp ev o).run Tryz.prog w' = .ok (.value (.int .i64 n2)) w') := Lib.hid fun ho hx' hi w' hm => by
    have := exec_lookup_ms (P := Tryz.prog) Tryz.underlying130 Tryz.underlying9 zeroI ho hx' hi hm
    rw [if_neg (by simp), hn2] at this
    exact this
  clear hn1 hn2 h
  obtain ⟨sx, hsx⟩ : ∃ sx, encStr x = .string sx := ⟨_, rfl⟩
  obtain ⟨sy, hsy⟩ : ∃ sy, encStr y = .string sy := ⟨_, rfl⟩
  rw [hsx] at HL1 ⊢
  rw [hsy] at HL2 ⊢
  clear hsx hsy
  have HSH := Lib.hid hS
  clear hS
  have hS := HSH.out
  go_enter Tryz.func102, Tryz.ntmps102
  go_wp2_with fail
  refine wp_region_plan [] [(0, 0), (1, 0), (2, 0), (3, 1), (4, 0), (5, 1), (6, 0), (7, 0), (8, 0), (9, 1), (10, 0), (11, 1), (13, 0), (14, 0), (12, 2), (15, 2), (16, 2), (17, 2), (18, 0)] (fun w' : World => w'.cell? ⟨c, 0, none⟩ = some (.map (some b)) ∧ Ms w' b (enm L)) (by kernel_rfl) (by kernel_rfl) (fun d v c a w h => by first | (cases d <;> exact h) | exact HP d v c a w h) ?_
  repeat ((first | refine plan_skip rfl rfl ?_ | refine plan_pass2 rfl rfl ?_ | refine plan_pass3 rfl rfl ?_ | (refine plan_take (v := ?_) rfl rfl ?_ ?_; rotate_left; focus (intro w0; go_simp; try with_reducible rfl)) | (refine plan_held (v := ?_) rfl rfl hS ?_ ?_; rotate_left; focus (intro w0 hSw; (try dsimp only at hSw); go_split_ands; go_simp; try with_reducible rfl)) | refine plan_skip1 rfl rfl hS ?_); simp only [nA, nB, nC, Act.put, nD, nE, nF])
  (refine plan_held (v := .int .i64 n1) rfl rfl hS (fun w0 h0 => HL1.out rfl rfl rfl w0 h0.2) ?_; try simp only [nA, nB, nC, Act.put, nD, nE, nF])
  repeat ((first | refine plan_skip rfl rfl ?_ | refine plan_pass2 rfl rfl ?_ | refine plan_pass3 rfl rfl ?_ | (refine plan_take (v := ?_) rfl rfl ?_ ?_; rotate_left; focus (intro w0; go_simp; try with_reducible rfl)) | (refine plan_held (v := ?_) rfl rfl hS ?_ ?_; rotate_left; focus (intro w0 hSw; (try dsimp only at hSw); go_split_ands; go_simp; try with_reducible rfl)) | refine plan_skip1 rfl rfl hS ?_); simp only [nA, nB, nC, Act.put, nD, nE, nF])
  (refine plan_held (v := .int .i64 n2) rfl rfl hS (fun w0 h0 => HL2.out rfl rfl rfl w0 h0.2) ?_; try simp only [nA, nB, nC, Act.put, nD, nE, nF])
  repeat ((first | refine plan_skip rfl rfl ?_ | refine plan_pass2 rfl rfl ?_ | refine plan_pass3 rfl rfl ?_ | (refine plan_take (v := ?_) rfl rfl ?_ ?_; rotate_left; focus (intro w0; go_simp; try with_reducible rfl)) | (refine plan_held (v := ?_) rfl rfl hS ?_ ?_; rotate_left; focus (intro w0 hSw; (try dsimp only at hSw); go_split_ands; go_simp; try with_reducible rfl)) | refine plan_skip1 rfl rfl hS ?_); simp only [nA, nB, nC, Act.put, nD, nE, nF])
  (refine plan_do rfl rfl fun K hK => ?_; try simp only [nA, nB, nC])
  go_simp
  refine (cmpI_any _ _ _).mono ?_; rintro e W1 ⟨rfl, rfl⟩
  refine hK _ _ hS ?_
  clear hK K
  try simp only [nA, nB, nC, Act.put, nD, nE, nF]
  (refine plan_do rfl rfl fun K hK => ?_; try simp only [nA, nB, nC])
  go_simp
  refine (cmpS_ok _ _ _).mono ?_; rintro e W1 ⟨⟨r, rfl⟩, rfl⟩
  refine hK _ _ hS ?_
  clear hK K
  try simp only [nA, nB, nC, Act.put, nD, nE, nF]
  have HN := Lib.hid (Blk.new w.drew 3 [.int .i64 (cmpI n1 n2), .int .i64 r])
  have hS2 : (w.drew.alloc (.cells #[.int .i64 (cmpI n1 n2), .int .i64 r] 3 (0, 0))).cell? ⟨c, 0, none⟩ = some (.map (some b)) ∧ Ms (w.drew.alloc (.cells #[.int .i64 (cmpI n1 n2), .int .i64 r] 3 (0, 0))) b (enm L) := ⟨((Mod.refl (fun _ => False) _).alloc _).cell (fun f => f) hS.1, hS.2.keep ((Mod.refl (fun _ => False) _).alloc _) fun f => f⟩
  (refine plan_do rfl rfl fun K hK => ?_; (try simp only [nA, nB, nC]); go_simp; refine hK _ _ hS2 ?_; clear hK K; try simp only [nA, nB, nC, Act.put, nD, nE, nF])
  (refine plan_do rfl rfl fun K hK => ?_; try simp only [nA, nB, nC])
  go_simp
  refine (or2_ok _ _ _ _ (HN.out.cell rfl) (HN.out.cell rfl)).mono ?_; rintro e W2 ⟨⟨r2, rfl⟩, rfl⟩
  refine hK _ _ hS2 ?_
  clear hK K
  try simp only [nA, nB, nC, Act.put, nD, nE, nF]
  repeat ((first | refine plan_skip rfl rfl ?_ | refine plan_pass2 rfl rfl ?_ | refine plan_pass3 rfl rfl ?_ | (refine plan_take (v := ?_) rfl rfl ?_ ?_; rotate_left; focus (intro w0; go_simp; try with_reducible rfl)) | (refine plan_held (v := ?_) rfl rfl hS2 ?_ ?_; rotate_left; focus (intro w0 hSw; (try dsimp only at hSw); go_split_ands; go_simp; try with_reducible rfl)) | refine plan_skip1 rfl rfl hS2 ?_); simp only [nA, nB, nC, Act.put, nD, nE, nF])
  refine plan_nil ?_
  go_wp2
  go_ret
  exact ⟨⟨_, rfl⟩, ((Mod.refl (fun _ => False) w).drew.alloc _)⟩
theorem perm_unmap {α β : Type} (f : α → β) {l m : List β} (h : l.Perm m) : ∀ ks : List α, ks.map f = m → ∃ ks' : List α, ks'.Perm ks ∧ ks'.map f = l := by
  induction h with
  | nil => intro ks hk; exact ⟨ks, .refl _, hk⟩
  | @cons a l m _ ih =>
    intro ks hk
    cases ks with
    | nil => simp at hk
    | cons k ks =>
      simp only [List.map_cons, List.cons.injEq] at hk
      obtain ⟨ks', h1, h2⟩ := ih ks hk.2
      exact ⟨k :: ks', h1.cons k, by rw [List.map_cons, h2, hk.1]⟩
  | swap a a' l =>
    intro ks hk
    match ks, hk with
    | k :: k' :: ks, hk =>
      simp only [List.map_cons, List.cons.injEq] at hk
      exact ⟨k' :: k :: ks, .swap _ _ _, by simp [hk.1, hk.2.1, hk.2.2]⟩
    | [_], hk => simp at hk
    | [], hk => simp at hk
  | trans _ _ ih1 ih2 =>
    intro ks hk
    obtain ⟨k2, h1, h2⟩ := ih2 ks hk
    obtain ⟨k3, h3, h4⟩ := ih1 k2 h2
    exact ⟨k3, h3.trans h1, h4⟩
set_option maxRecDepth 100000 in
set_option maxHeartbeats 1000000 in
theorem srfS {c g n cap : Nat} {ss0 : List ByteArray} {w0 : World} (HC : Hid (SCx c g n cap ss0 w0)) {W : World} (hS : Srd g n cap ss0 w0 W) :
    Calls Tryz.prog 146 #[.slice (some ⟨g, 0, none⟩) n cap, .func (.func 102) #[.pointer (some ⟨c, 0, none⟩)] #[]] W fun e W' => e = .returned (.tuple #[]) ∧ Srd g n cap ss0 w0 W' := by
  have hn4 := HC.out.n4
  have un : IntKind.u64.wrap (n : Int) = (n : Int) := IntWalk.u64_in _ (by omega)
  have HS := Lib.hid hS
  have HLen : Hid (∀ w, Calls Tryz.prog 144 #[.int .u64 (n : Int)] w fun e w' => e = .returned (.int .i64 (Lib.bitLen (n : Int).toNat)) ∧ w' = w) := Lib.hid fun w => Any.bits_Len (SlLaysF0.n15.bits (P := Tryz.prog) (ρ := Tryz.sortFS_ren) { Tryz.sortFSx with }) (n : Int) w (by omega) (by omega)
  have HBL : Hid (Lib.bitLen (n : Int).toNat ≤ 64) := Lib.hid (Lib.bitLen_le _ 64 (by omega) (by omega))
  clear hS
  go_enter Tryz.func146, Tryz.ntmps146
  go_wp2_with fail
  refine (HLen.out _).mono ?_
  obtain ⟨l, hl⟩ : ∃ l, l = Lib.bitLen (n : Int).toNat := ⟨_, rfl⟩
  rw [← hl] at HBL ⊢
  rintro e w1 ⟨rfl, rfl⟩
  have HP := Lib.hid (pdqS HC (n + 1) _ 0 n l HS.out (Nat.zero_le _) (Nat.le_refl _) (by omega) HBL.out)
  rw [Int.ofNat_zero] at HP
  clear hl HLen
  go_wp2_with fail
  refine HP.out.mono ?_
  rintro e w2 ⟨rfl, hs2⟩
  have HS2 := Lib.hid hs2
  clear hs2
  go_wp2
  go_end0
  exact ⟨rfl, HS2.out⟩
theorem sortOk : SortOk 49 := by
  intro w c b T L f v ks hC hR h0 hN hf
  have hR' := hR
  unfold RowS at hR
  obtain ⟨a, cap, rfl, hnc, hcm, hg⟩ := Row.form hR
  obtain ⟨g, rfl, hfg, hlt, hc⟩ := hg h0
  have hgb := hf g hfg
  have hmap : (ks.map fun p => encStr p.1.kk) = (ks.map fun p => (⟨p.1.kk.toArray⟩ : ByteArray)).map Value.string := by rw [List.map_map]; rfl
  have hS : Srd g ks.length cap (ks.map fun p => (⟨p.1.kk.toArray⟩ : ByteArray)) w w := ⟨_, .refl _, by unfold SRow; rw [← hmap]; exact hR.mono fun _ _ => trivial, Mod.refl _ _⟩
  have HC : Hid (SCx c g ks.length cap (ks.map fun p => (⟨p.1.kk.toArray⟩ : ByteArray)) w) := Lib.hid ⟨hN, fun W x y hm hx hy => by
    obtain ⟨p, _, rfl⟩ := List.mem_map.1 hx
    obtain ⟨q, _, rfl⟩ := List.mem_map.1 hy
    exact before_ok (hC.keep hm (fun e => hgb.2 e.symm) fun e => hgb.1 e.symm) p.1.kk q.1.kk⟩
  refine (srfS HC hS).mono ?_
  rintro e w' ⟨rfl, ss, h1, h2, h3⟩
  obtain ⟨ks', h4, h5⟩ := perm_unmap (fun p : Ad × Int => (⟨p.1.kk.toArray⟩ : ByteArray)) h1 ks rfl
  refine ⟨rfl, ks', h4, ?_, h3.mono fun k hk => .inl (by rw [hk]; rfl)⟩
  have hl := h4.length_eq
  unfold RowS
  have hmap' : (ks'.map fun p => encStr p.1.kk) = ss.map Value.string := by rw [← h5, List.map_map]; rfl
  rw [hmap', hl]
  exact ⟨h2.1, hR.2⟩
end Go.Proofs.YtcccdlmngddalaaGreat
namespace Go.Proofs.YtcccdlmngddalaaGreat
open Go.RowKit Go.MapKept Go.Maps Go.WideShapes
structure Hd where
  a : Ad
  p : Nat
  c : Nat
  b : Nat
  G : Gs
def Hd.e (h : Hd) : Ad × Value := (h.a, .pointer (some ⟨h.p, 0, none⟩))
def ptC (most now : Int) (fast : Bool) (hb : Nat) (gr sr : Int) : List Value := [.int .i64 most, .int .i64 now, .bool fast, .map (some hb), .int .i64 gr, .int .i64 sr]
structure PIn (w : World) (pp hb : Nat) (most now : Int) (fast : Bool) (gr sr : Int) (hs : List Hd) : Prop where
  blk : Blk w pp 110 (ptC most now fast hb gr sr)
  mp : ∃ m0, m0.Perm (hs.map Hd.e) ∧ Ma w hb m0
  gs : ∀ h ∈ hs, GAt w h.p h.c h.b h.G
  np : (hs.map (·.p)).Nodup
  nb : (hs.map (·.b)).Nodup
  hb : ∀ h ∈ hs, h.b ≠ hb
theorem GAt.keepF {w w' : World} {p c b : Nat} {G : Gs} (h : GAt w p c b G) {F : Nat → Prop} (hm : Mod F w w') (h1 : ¬ F p) (h2 : ¬ F c) (h3 : ¬ F b) (hF : NotA w F) : GAt w' p c b G := by
  obtain ⟨a1, n1, k1, a2, n2, k2, L, h⟩ := h
  exact ⟨a1, n1, k1, a2, n2, k2, L, h.blk.keep hm h1, h.on.keepT hm hF, h.off.keepT hm hF, h.clk.keep hm h2 h3⟩
theorem GAt.lts {w : World} {p c b : Nat} {G : Gs} (h : GAt w p c b G) : p < w.heap.size ∧ c < w.heap.size ∧ b < w.heap.size := by
  obtain ⟨_, _, _, _, _, _, _, hh⟩ := h
  exact ⟨hh.blk.lt, hh.clk.blk.lt, hh.clk.mp.lt⟩
theorem GAt.blks {w : World} {p c b : Nat} {G : Gs} (h : GAt w p c b G) : (∃ cs z, w.heap[p]? = some (.cells cs 90 z)) ∧ (∃ cs z, w.heap[c]? = some (.cells cs 132 z)) ∧ ∃ es ck, w.heap[b]? = some (.map es ck) := by
  obtain ⟨_, _, _, _, _, _, _, hh⟩ := h
  obtain ⟨es, ck, hb, _⟩ := hh.clk.mp
  exact ⟨⟨_, _, hh.blk⟩, ⟨_, _, hh.clk.blk⟩, es, ck, hb⟩
theorem Ma.blks {w : World} {b : Nat} {m : List (Ad × Value)} (h : Ma w b m) : ∃ es ck, w.heap[b]? = some (.map es ck) := by
  obtain ⟨es, ck, hb, _⟩ := h
  exact ⟨es, ck, hb⟩
set_option maxRecDepth 100000 in
theorem ptNew (most : Int) (w : World) : Calls Tryz.prog 27 #[.int .i64 most] w fun e w' => ∃ pp hb, e = .returned (.pointer (some ⟨pp, 0, none⟩)) ∧ PIn w' pp hb (min (max most 0) 64) 0 false 0 0 [] ∧ w.heap.size ≤ pp ∧ w.heap.size ≤ hb ∧ Mod (fun _ => False) w w' := by
  have hmm : ∀ w : World, (Instr.makeMap 108 none).run Tryz.prog w = .ok (.map (some w.heap.size)) (w.alloc (.map #[] 0)) := fun w => rfl
  go_enter Tryz.func27, Tryz.ntmps27
  go_wp2
  go_ret
  refine ⟨w.heap.size + 1, w.heap.size, by simp, ⟨?_, ⟨[], .refl _, (Ma.made w).keep ((Mod.refl (fun _ => False) _).alloc _) fun f => f⟩, fun h hh => (by cases hh), List.nodup_nil, List.nodup_nil, fun h hh => (by cases hh)⟩, by omega, Nat.le_refl _, ((Mod.refl _ _).alloc _).alloc _⟩
  have := allocNew (w.alloc (.map #[] 0)) (.cells #[.int .i64 (min (max most 0) 64), .int .i64 0, .bool false, .map (some w.heap.size), .int .i64 0, .int .i64 0] 110 (0, 0))
  simpa [Blk, ptC] using this
theorem EG.dueN {G : Gs} {M n : Int} (h : EG G M n) (now : Int) {w : World} {p c b : Nat} : ∀ L : List (Ad × Int), (∀ a1 n1 k1 a2 n2 k2, GIn w p c b G a1 n1 k1 a2 n2 k2 L → (dueL (nowG G now) L).length ≤ 49) := fun L a1 n1 k1 a2 n2 k2 hg => Nat.le_trans (h.due hg.clk.tl _) (by decide)
def goneV (ex : Bool) (on : List Ad) : Bool := !ex && decide (on = [])
set_option maxRecDepth 100000 in
theorem fGone (ex : Bool) (a1 : Option Addr) (n1 k1 : Nat) (v2 : Value) (w : World) : Calls Tryz.prog 109 #[.agg #[.bool ex, .slice a1 n1 k1, v2]] w fun e w' => e = .returned (.bool (!ex && decide (n1 = 0))) ∧ Mod (fun _ => False) w w' := by
  have hb := Blk.new w 26 [.bool ex, .slice a1 n1 k1, v2]
  have c0 := hb.cell (j := 0) rfl
  have c1 := hb.cell (j := 1) rfl
  have HM : Hid (Mod (fun _ => False) w (w.alloc (.cells #[.bool ex, .slice a1 n1 k1, v2] 26 (0, 0)))) := Lib.hid ((Mod.refl _ _).alloc _)
  clear hb
  cases ex with
  | true =>
    go_enter Tryz.func109, Tryz.ntmps109
    go_wp2
    go_ret
    exact ⟨rfl, HM.out⟩
  | false =>
    by_cases hn : n1 = 0
    · subst hn
      go_enter Tryz.func109, Tryz.ntmps109
      go_wp2
      go_ret
      exact ⟨rfl, HM.out⟩
    · have bn : ((n1 : Int) == 0) = false := by simp [hn]
      have hd : decide (n1 = 0) = false := decide_eq_false hn
      go_enter Tryz.func109, Tryz.ntmps109
      go_wp2
      go_ret
      exact ⟨by rw [hd]; rfl, HM.out⟩
set_option maxRecDepth 100000 in
set_option maxHeartbeats 1000000 in
theorem settle1 {w : World} {bx pp : Nat} {now : Int} {p c b : Nat} {G : Gs} (hbx : Blk w bx 59 [.pointer (some ⟨pp, 0, none⟩)]) (hpp : w.cell? ⟨pp, 1, none⟩ = some (.int .i64 now)) (hg : GAt w p c b G) {n : Int} (he : EG G 3000000 n) (hn : n ≤ 1000000000000) (a : Ad) :
    Calls Tryz.prog 108 (#[a.kv, .pointer (some ⟨p, 0, none⟩)] ++ #[.pointer (some ⟨bx, 0, none⟩)]) w fun e w' => e = .returned (.bool (goneV (settleG G now).ex (settleG G now).on)) ∧ GAt w' p c b (settleG G now) ∧ Mod (fun k => k = p ∨ k = b) w w' := by
  have hok := he.ok (by omega) hn
  have HE := Lib.hid he
  have hal : Mod (fun _ => False) w (w.alloc (.cells a.c.toArray 36 (0, 0))) := (Mod.refl _ _).alloc _
  have HG := Lib.hid (hg.keep0 hal)
  have HM : Hid (Mod (fun k => k = p ∨ k = b) w (w.alloc (.cells a.c.toArray 36 (0, 0)))) := Lib.hid ((Mod.refl _ _).alloc _)
  have x0 : (w.alloc (.cells a.c.toArray 36 (0, 0))).cell? ⟨bx, 0, none⟩ = some (.pointer (some ⟨pp, 0, none⟩)) := (hbx.keep hal fun f => f).cell rfl
  have x1 : (w.alloc (.cells a.c.toArray 36 (0, 0))).cell? ⟨pp, 1, none⟩ = some (.int .i64 now) := hal.cell (fun f => f) hpp
  have HOK := Lib.hid hok
  obtain ⟨G1, hG1⟩ : ∃ G1, G1 = settleG G now := ⟨_, rfl⟩
  have HG1 := Lib.hid hG1
  rw [← hG1]
  clear he hal hg hbx hpp hok hG1
  show Calls Tryz.prog 108 #[.agg a.c.toArray, .pointer (some ⟨p, 0, none⟩), .pointer (some ⟨bx, 0, none⟩)] w _
  go_enter Tryz.func108, Tryz.ntmps108
  go_wp2_with fail
  refine (gState sortOk HG.out HOK.out now (HE.out.dueN _)).mono ?_
  rw [← HG1.out]
  rintro e W1 ⟨a1, n1, k1, a2, n2, k2, rfl, q1, q2, hg1, hm1⟩
  have HGG := Lib.hid hg1
  have HM1 : Hid (Mod (fun k => k = p ∨ k = b) w W1) := Lib.hid (HM.out.trans hm1 fun k hk => .inl hk)
  have HL := Lib.hid q1.len.1
  clear hg1 hm1 q1 q2
  go_wp2_with fail
  refine (fGone _ _ _ _ _ _).mono ?_
  rintro e W2 ⟨rfl, hm2⟩
  have HG2 := Lib.hid (HGG.out.keep0 hm2)
  have HM2 : Hid (Mod (fun k => k = p ∨ k = b) w W2) := Lib.hid (HM1.out.trans hm2 fun _ f => f.elim)
  clear hm2
  go_wp2
  go_ret
  refine ⟨?_, HG2.out, HM2.out⟩
  have e1 : decide (n1 = 0) = decide (G1.on = []) := by
    rw [HL.out]
    cases G1.on <;> simp
  rw [e1]
  rfl
structure HdOk (hs : List Hd) : Prop where
  eg : ∀ h ∈ hs, ∃ n, n ≤ 1000000000000 ∧ EG h.G 3000000 n
def Hd.settle (n : Int) (h : Hd) : Hd := { h with G := settleG h.G n }
def Hd.gone (h : Hd) : Bool := goneV h.G.ex h.G.on
def setHs (n : Int) (hs : List Hd) : List Hd := (hs.map (Hd.settle n)).filter fun h => !h.gone
theorem gfar2 {w w' : World} {p c b q d e : Nat} {G H : Gs} (h : GAt w p c b G) (h' : GAt w q d e H) (hm : Mod (fun k => k = q ∨ k = e) w w') (h1 : p ≠ q) (h2 : b ≠ e) : GAt w' p c b G := by
  obtain ⟨_, _, _, _, _, _, _, hh⟩ := h'
  obtain ⟨es, ck, hb, _⟩ := hh.clk.mp
  exact h.far hm h1 h2 hh.blk hb
def PF (pp hb : Nat) (hs : List Hd) (k : Nat) : Prop := k = pp ∨ k = hb ∨ ∃ h ∈ hs, k = h.p ∨ k = h.b
section
variable {w : World} {pp hb : Nat} {most now : Int} {fast : Bool} {gr sr : Int} {hs : List Hd}
theorem PIn.nk (h : PIn w pp hb most now fast gr sr hs) : (hs.map (·.a)).Nodup := by
  obtain ⟨m0, h1, h2⟩ := h.mp
  have h3 := (h1.map (·.1)).nodup_iff.1 h2.nd
  rwa [List.map_map] at h3
theorem PIn.keep0 {w' : World} (h : PIn w pp hb most now fast gr sr hs) (hm : Mod (fun _ => False) w w') : PIn w' pp hb most now fast gr sr hs := by
  obtain ⟨m0, h1, h2⟩ := h.mp
  exact ⟨h.blk.keep hm fun f => f, ⟨m0, h1, h2.keep hm fun f => f⟩, fun x hx => (h.gs x hx).keep0 hm, h.np, h.nb, h.hb⟩
theorem inj_of_nodup {α β : Type} {f : α → β} : ∀ {l : List α}, (l.map f).Nodup → ∀ x ∈ l, ∀ y ∈ l, f x = f y → x = y
  | [], _, x, hx, _, _, _ => by cases hx
  | a :: l, hn, x, hx, y, hy, e => by
    rw [List.map_cons, List.nodup_cons] at hn
    rcases List.mem_cons.1 hx with hx | hx
    · rcases List.mem_cons.1 hy with hy | hy
      · rw [hx, hy]
      · exact absurd (by rw [← hx, e]; exact List.mem_map_of_mem hy) hn.1
    · rcases List.mem_cons.1 hy with hy | hy
      · exact absurd (by rw [← hy, ← e]; exact List.mem_map_of_mem hx) hn.1
      · exact inj_of_nodup hn.2 x hx y hy e
theorem PIn.pne (h : PIn w pp hb most now fast gr sr hs) : ∀ x ∈ hs, pp ≠ x.p ∧ pp ≠ x.b ∧ pp ≠ hb ∧ x.p ≠ hb ∧ x.c ≠ hb := fun x hx => by
  obtain ⟨⟨cs1, z1, b1⟩, ⟨cs2, z2, b2⟩, es, ck, b3⟩ := (h.gs x hx).blks
  obtain ⟨m0, _, h2⟩ := h.mp
  obtain ⟨es2, ck2, b4⟩ := h2.blks
  have hp := h.blk
  unfold Blk at hp
  refine ⟨fun e => ?_, fun e => ?_, fun e => ?_, fun e => ?_, fun e => ?_⟩
  · rw [e, b1] at hp; injection hp with hp; injection hp with _ h2; exact absurd h2 (by decide)
  · rw [e, b3] at hp; cases hp
  · rw [e, b4] at hp; cases hp
  · rw [e, b4] at b1; cases b1
  · rw [e, b4] at b2; cases b2
end
def pdH (n : Int) (hs : List Hd) (a : Ad) : Bool := match hs.find? (fun h => h.a == a) with
  | some h => (h.settle n).gone
  | none => false
theorem pdH_eq {n : Int} : ∀ {hs : List Hd}, (hs.map (·.a)).Nodup → ∀ h ∈ hs, pdH n hs h.a = (h.settle n).gone
  | [], _, h, hh => by cases hh
  | x :: hs, hn, h, hh => by
    rw [List.map_cons, List.nodup_cons] at hn
    unfold pdH
    by_cases hx : x.a = h.a
    · rw [List.find?_cons_of_pos (by simpa using hx)]
      rcases List.mem_cons.1 hh with rfl | hh
      · rfl
      · exact absurd (hx ▸ List.mem_map_of_mem (f := (·.a)) hh) hn.1
    · rw [List.find?_cons_of_neg (by simpa using hx)]
      rcases List.mem_cons.1 hh with rfl | hh
      · exact absurd rfl hx
      · exact pdH_eq hn.2 h hh
theorem setHs_e {n : Int} {hs : List Hd} (hn : (hs.map (·.a)).Nodup) : (hs.map Hd.e).filter (fun p => !pdH n hs p.1) = (setHs n hs).map Hd.e := by
  unfold setHs
  rw [List.filter_map, List.filter_map, List.map_map]
  show (hs.filter _).map Hd.e = (hs.filter _).map Hd.e
  refine congrArg (List.map Hd.e) (List.filter_congr fun h hh => ?_)
  show (!pdH n hs h.a) = !(h.settle n).gone
  rw [pdH_eq hn h hh]
set_option maxRecDepth 100000 in
set_option maxHeartbeats 4000000 in
theorem ptSettle {w : World} {pp hb : Nat} {most now : Int} {fast : Bool} {gr sr : Int} {hs : List Hd} (h : PIn w pp hb most now fast gr sr hs) (ok : HdOk hs) (hl : hs.length ≤ 1000) (n : Int) :
    Calls Tryz.prog 61 #[.pointer (some ⟨pp, 0, none⟩), .int .i64 n] w fun e w' => e = .returned (.int .i64 (max now (min n 1000000000000))) ∧ PIn w' pp hb most (max now (min n 1000000000000)) fast gr sr (setHs (max now (min n 1000000000000)) hs) ∧ Mod (PF pp hb hs) w w' := by
  obtain ⟨n', hn'⟩ : ∃ n', n' = max now (min n 1000000000000) := ⟨_, rfl⟩
  rw [← hn']
  have e_n : max now (min n 1000000000000) = n' := hn'.symm
  have hal : Mod (fun _ => False) w (w.alloc (.cells #[.pointer (some ⟨pp, 0, none⟩)] 59 (0, 0))) := (Mod.refl _ _).alloc _
  have HI := Lib.hid (h.keep0 hal)
  have HB := Lib.hid (Blk.new w 59 [.pointer (some ⟨pp, 0, none⟩)])
  have HM : Hid (Mod (PF pp hb hs) w (w.alloc (.cells #[.pointer (some ⟨pp, 0, none⟩)] 59 (0, 0)))) := Lib.hid ((Mod.refl _ _).alloc _)
  have HLT : Hid (pp < w.heap.size ∧ hb < w.heap.size ∧ ∀ x ∈ hs, x.p < w.heap.size ∧ x.c < w.heap.size ∧ x.b < w.heap.size) := Lib.hid ⟨h.blk.lt, by obtain ⟨m0, _, h2⟩ := h.mp; exact h2.lt, fun x hx => (h.gs x hx).lts⟩
  have HNE := Lib.hid h.pne
  have HNK := Lib.hid h.nk
  have HNP := Lib.hid h.np
  have HNB := Lib.hid h.nb
  have HHB := Lib.hid h.hb
  have HOK := Lib.hid ok
  have hS : (w.alloc (.cells #[.pointer (some ⟨pp, 0, none⟩)] 59 (0, 0))).drew.cell? ⟨w.heap.size, 0, none⟩ = some (.pointer (some ⟨pp, 0, none⟩)) ∧ (w.alloc (.cells #[.pointer (some ⟨pp, 0, none⟩)] 59 (0, 0))).drew.cell? ⟨pp, 1, none⟩ = some (.int .i64 now) := ⟨HB.out.cell rfl, HI.out.blk.cell rfl⟩
  clear h ok hal hn'
  go_enter Tryz.func61, Tryz.ntmps61
  go_wp2_with fail
  refine wp_region_plan [10] [(0, 1), (1, 1), (2, 0), (3, 0), (4, 1), (5, 0), (6, 0), (7, 0), (8, 0), (9, 0), (10, 3)] (fun w' : World => w'.cell? ⟨w.heap.size, 0, none⟩ = some (.pointer (some ⟨pp, 0, none⟩)) ∧ w'.cell? ⟨pp, 1, none⟩ = some (.int .i64 now)) (by kernel_rfl) (by kernel_rfl) (fun d v c a w h => by first | (cases d <;> exact h) | exact HP d v c a w h) ?_
  repeat ((first | refine plan_skip rfl rfl ?_ | refine plan_pass2 rfl rfl ?_ | refine plan_pass3 rfl rfl ?_ | (refine plan_take (v := ?_) rfl rfl ?_ ?_; rotate_left; focus (intro w0; go_simp; try with_reducible rfl)) | (refine plan_held (v := ?_) rfl rfl hS ?_ ?_; rotate_left; focus (intro w0 hSw; (try dsimp only at hSw); go_split_ands; go_simp; try with_reducible rfl)) | refine plan_skip1 rfl rfl hS ?_); simp only [nA, nB, nC, Act.put, nD, nE, nF])
  (refine plan_end rfl rfl rfl fun K hK => ?_; (try simp only [nA, nB, nC]))
  refine wp_store_blk1 3 _ _ rfl pp 1 110 _ (.int .i64 n') rfl (by go_simp) HI.out.blk (by simp [ptC]) iSz rfl ?_
  intro W1 HB1 HM1'
  refine hK _ _ ?_
  clear hK K hS
  try simp only [nA, nB, nC, Act.put, nD, nE, nF]
  refine plan_nil ?_
  have HP1 : Hid (Blk W1 pp 110 (ptC most n' fast hb gr sr)) := Lib.hid HB1.out
  have HX1 : Hid (Blk W1 w.heap.size 59 [.pointer (some ⟨pp, 0, none⟩)]) := Lib.hid (HB.out.drew.keep HM1'.out fun e => by have := HLT.out.1; omega)
  have hq1 : NotA (w.alloc (.cells #[.pointer (some ⟨pp, 0, none⟩)] 59 (0, 0))).drew (fun k => k = pp) := HI.out.blk.drew.notA (by decide)
  have HG1 : Hid (∀ x ∈ hs, GAt W1 x.p x.c x.b x.G) := Lib.hid fun x hx => by
    have hb1 := (HI.out.gs x hx).keep0 (Mod.refl _ _).drew
    have hne := HNE.out x hx
    exact hb1.keepF HM1'.out (fun e => hne.1 e.symm) (fun e => by
      obtain ⟨_, ⟨cs, z, hc⟩, _⟩ := hb1.blks
      have hp := HI.out.blk.drew
      unfold Blk at hp
      rw [e, hp] at hc; injection hc with hc; injection hc with _ h2; exact absurd h2 (by decide)) (fun e => hne.2.1 e.symm) hq1
  obtain ⟨m0, hm0, hma⟩ := HI.out.mp
  have HMA1 : Hid (Ma W1 hb m0) := Lib.hid (hma.keep (((Mod.refl (fun k => k = pp) _).drew).trans HM1'.out fun k hk => .inl hk) fun e => by
    obtain ⟨es, ck, he⟩ := hma.blks
    have hp := HI.out.blk
    unfold Blk at hp
    have e' : hb = pp := e
    subst e'
    rw [he] at hp; cases hp)
  have HPM := Lib.hid hm0
  have HM1 : Hid (Mod (PF pp hb hs) w W1) := Lib.hid (HM.out.drew.trans HM1'.out fun k hk => .inl (.inl hk))
  have HS1 : Hid (w.heap.size < W1.heap.size) := Lib.hid HX1.out.lt
  have HPV : Hid (∀ p ∈ m0, PtrV p.2) := Lib.hid fun p hp => by
    obtain ⟨x, _, rfl⟩ := List.mem_map.1 (hm0.mem_iff.1 hp)
    exact ⟨_, rfl⟩
  have HLN : Hid (m0.length ≤ 100000) := Lib.hid (by have := hm0.length_eq; rw [List.length_map] at this; omega)
  clear hm0 hma hq1 HB1 HM1' HI HB HM
  have HDF := Lib.hid (delfA #[.pointer (some ⟨w.heap.size, 0, none⟩)] hb m0 HPV.out HLN.out W1 HMA1.out (pdH n' hs) (fun k => ∃ x ∈ hs, k = x.p ∨ k = x.b)
    (fun ⟨x, hx, hk⟩ => hk.elim (fun e => (HNE.out x hx).2.2.2.1 e.symm) fun e => HHB.out x hx e.symm)
    (fun k ⟨x, hx, hk⟩ => by have := HLT.out.2.2 x hx; have := HS1.out; omega)
    (fun s W => Blk W w.heap.size 59 [.pointer (some ⟨pp, 0, none⟩)] ∧ Blk W pp 110 (ptC most n' fast hb gr sr) ∧ ∀ x ∈ hs, GAt W x.p x.c x.b (if x.a ∈ s.map (·.1) then settleG x.G n' else x.G))
    ⟨HX1.out, HP1.out, fun x hx => by simpa using HG1.out x hx⟩
    (fun s W W' hI hnc hm => by
      obtain ⟨i1, i2, i3⟩ := hI
      have hS := HS1.out
      refine ⟨i1.keep hm fun e => ?_, i2.keep hm fun e => ?_, fun x hx => (i3 x hx).keepF hm (fun e => ?_) (fun e => ?_) (fun e => ?_) fun k hk cur z he => hnc k hk cur _ z he⟩
      · unfold Blk at i1
        exact hnc _ e _ _ _ i1
      · unfold Blk at i2
        exact hnc _ e _ _ _ i2
      · obtain ⟨⟨cs, z, hc⟩, _⟩ := (i3 x hx).blks
        exact hnc _ e _ _ _ hc
      · obtain ⟨_, ⟨cs, z, hc⟩, _⟩ := (i3 x hx).blks
        exact hnc _ e _ _ _ hc
      · have := HLT.out.2.2 x hx
        have := HHB.out x hx
        omega)
    (fun s W p hI hp hns hsz => by
      obtain ⟨i1, i2, i3⟩ := hI
      obtain ⟨x, hx, rfl⟩ := List.mem_map.1 (HPM.out.mem_iff.1 hp)
      obtain ⟨k, hk1, hk2⟩ := HOK.out.eg x hx
      have hgx := i3 x hx
      have hns' : x.a ∉ s.map (·.1) := hns
      rw [if_neg hns'] at hgx
      refine (settle1 i1 (i2.cell rfl) hgx hk2 hk1 x.a).mono ?_
      rintro e W' ⟨rfl, hg', hm'⟩
      have hlx := HLT.out.2.2 x hx
      have hnx := HNE.out x hx
      refine ⟨?_, ⟨i1.keep hm' fun e => by omega, i2.keep hm' fun e => e.elim hnx.1 hnx.2.1, fun y hy => ?_⟩, hm'.mono fun k hk => .inl ⟨x, hx, hk⟩⟩
      · show _ = Ending.returned (.bool (pdH n' hs x.a))
        rw [pdH_eq HNK.out x hx]
        rfl
      · by_cases hxy : y = x
        · subst hxy
          rw [if_pos (by rw [List.map_append, List.mem_append]; exact .inr (by simp [Hd.e]))]
          exact hg'
        · have hay : y.a ≠ x.a := fun e => hxy (inj_of_nodup HNK.out y hy x hx e)
          have hiff : y.a ∈ (s ++ [x.e]).map (·.1) ↔ y.a ∈ s.map (·.1) := by rw [List.map_append, List.mem_append]; simp [Hd.e, hay]
          simp only [hiff]
          exact gfar2 (i3 y hy) hgx hm' (fun e => hxy (inj_of_nodup HNP.out y hy x hx e)) fun e => hxy (inj_of_nodup HNB.out y hy x hx e)))
  have x0 : W1.cell? ⟨w.heap.size, 0, none⟩ = some (.pointer (some ⟨pp, 0, none⟩)) := HX1.out.cell rfl
  have x3 : W1.cell? ⟨pp, 3, none⟩ = some (.map (some hb)) := HP1.out.cell rfl
  go_wp2_with fail
  refine HDF.out.mono ?_
  rintro e W2 ⟨rfl, s, m', hs1, ⟨i1, i2, i3⟩, hm2, hma2, hmod⟩
  have HX2 := Lib.hid i1
  have HP2 := Lib.hid i2
  have HG2 : Hid (∀ x ∈ hs, GAt W2 x.p x.c x.b (settleG x.G n')) := Lib.hid fun x hx => by
    have := i3 x hx
    rwa [if_pos (show x.a ∈ s.map (·.1) from List.mem_map_of_mem (f := (·.1)) (hs1.mem_iff.2 (HPM.out.mem_iff.2 (List.mem_map_of_mem (f := Hd.e) hx))))] at this
  have HMA2 : Hid (m'.Perm ((setHs n' hs).map Hd.e) ∧ Ma W2 hb m') := Lib.hid ⟨by
    rw [← setHs_e HNK.out]
    exact hm2.trans (HPM.out.filter _), hma2⟩
  have HM2 : Hid (Mod (PF pp hb hs) w W2) := Lib.hid (HM1.out.trans hmod fun k hk => .inl (.inr (hk.elim .inl fun ⟨x, hx, h⟩ => .inr ⟨x, hx, h⟩)))
  have y0 : W2.cell? ⟨w.heap.size, 0, none⟩ = some (.pointer (some ⟨pp, 0, none⟩)) := i1.cell rfl
  have y1 : W2.cell? ⟨pp, 1, none⟩ = some (.int .i64 n') := i2.cell rfl
  clear i1 i2 i3 hs1 hm2 hma2 hmod HDF x0 x3
  go_wp2
  go_ret
  have hsub : ((hs.map (Hd.settle n')).filter fun h => !h.gone).Sublist (hs.map (Hd.settle n')) := List.filter_sublist
  refine ⟨rfl, ⟨HP2.out, ⟨m', HMA2.out.1, HMA2.out.2⟩, fun x hx => ?_, ?_, ?_, fun x hx => ?_⟩, HM2.out⟩
  · obtain ⟨z, hz, rfl⟩ := List.mem_map.1 (List.mem_filter.1 hx).1
    exact HG2.out z hz
  · exact (hsub.map (·.p)).nodup (by rw [List.map_map]; exact HNP.out)
  · exact (hsub.map (·.b)).nodup (by rw [List.map_map]; exact HNB.out)
  · obtain ⟨z, hz, rfl⟩ := List.mem_map.1 (List.mem_filter.1 hx).1
    exact HHB.out z hz
theorem zeroP : ∀ w : World, (zeroValue 22).run Tryz.prog w = .ok (.pointer none) w := fun w => by
  obtain ⟨i, h1, h2, _⟩ := info_parts (show (Tryz.prog.info? 22).map (fun i => (i.zero, i.size, i.bytes)) = some (some (.pointer none), 1, 8) from by kernel_rfl)
  simp [zeroValue, typeInfo, h1, h2, Result.andThen]
theorem exec_lookup_ma {o : Oper} {ev : Operand → Value} {x i : Operand} {ok : Bool} (ho : o.op = .lookup 108 x i ok) {b : Nat} {k : Ad} (hx : ev x = .map (some b)) (hi : ev i = k.kv) {w : World} {m : List (Ad × Value)} (h : Ma w b m) :
    (execOp ev o).run Tryz.prog w = .ok (.value (if ok then .tuple #[(mgetA m k).getD (.pointer none), .bool (mgetA m k).isSome] else (mgetA m k).getD (.pointer none))) w := by
  have := run_lookup_ma adrKeyed adrKey Tryz.underlying108 zeroP h k ok
  simp only [execOp, ho, hx, hi, Sem.run_bind, this, Result.andThen]
  rfl
theorem exec_lookup_none {o : Oper} {ev : Operand → Value} {x i : Operand} (ho : o.op = .lookup 108 x i true) {b : Nat} (k : Ad) (hx : ev x = .map (some b)) (hi : ev i = .agg k.c.toArray) {w : World} {m : List (Ad × Value)} (hn : mgetA m k = none) (h : Ma w b m) :
    (execOp ev o).run Tryz.prog w = .ok (.value (.tuple #[.pointer none, .bool false])) w := by
  have := exec_lookup_ma (k := k) ho hx hi h
  rw [hn] at this
  exact this
theorem exec_len_ma {o : Oper} {ev : Operand → Value} {x : Operand} (ho : o.op = .call { callee := .builtin .len, args := #[x], argTypes := #[108] }) {b : Nat} (hx : ev x = .map (some b)) {w : World} {m : List (Ad × Value)} (h : Ma w b m) :
    (execOp ev o).run Tryz.prog w = .ok (.value (.int .i64 m.length)) w := by
  have := run_len_ma (kt := 36) (ty := o.type) Tryz.underlying108 h
  unfold execOp
  simp only [ho, resolve, invoke, builtin, Sem.run_bind, Sem.run_pure, Result.andThen_ok, List.map_toArray, List.map_cons, List.map_nil, hx, this]
theorem exec_len_n {o : Oper} {ev : Operand → Value} {x : Operand} (ho : o.op = .call { callee := .builtin .len, args := #[x], argTypes := #[108] }) {b : Nat} (hx : ev x = .map (some b)) {w : World} {m : List (Ad × Value)} {n : Nat} (hn : m.length = n) (h : Ma w b m) :
    (execOp ev o).run Tryz.prog w = .ok (.value (.int .i64 (n : Int))) w := by
  have := exec_len_ma ho hx h
  rwa [hn] at this
theorem wp_update_ma {o : Oper} {a : Act} {w : World} {K : Act → World → Prop} {Q : Exit → Act → World → Prop} {mo ko vo : Operand} (ho : o.op = .mapUpdate 108 mo ko vo) {b : Nat} {k : Ad} {v : Value} {m : List (Ad × Value)} (hm : a.eval mo = .map (some b)) (hko : a.eval ko = k.kv) (hv : a.eval vo = v) (h : Ma w b m)
    (hK : ∀ w', Ma w' b (mputA m k v) → Mod (fun x => x = b) w w' → K (a.put o.dst undef) w') : o.wp Tryz.prog a w K Q := by
  obtain ⟨w', hrun, h1, h2⟩ := run_update_ma adrKeyed adrKey Tryz.underlying108 h k v
  unfold Oper.wp
  simp [execOp, ho, hm, hko, hv, hrun, Result.andThen]
  exact hK w' h1 h2
theorem recC_g (k : Int) (g : Ad) (v : Value) : ((recC k g v).drop 1).take g.c.length = g.c := by
  show (g.c ++ [v]).take g.c.length = g.c
  rw [List.take_left' rfl]
theorem recC_1 (k : Int) (g : Ad) (v : Value) : (recC k g v)[1]? = some (.bool g.v) := rfl
theorem notHeld {hs : List Hd} (g : Ad) (hna : ∀ x ∈ hs, x.a ≠ g) {m0 : List (Ad × Value)} (hp : m0.Perm (hs.map Hd.e)) : mgetA m0 g = none ∧ (∀ v, mputA m0 g v = m0 ++ [(g, v)]) ∧ mdelA m0 g = m0 := mgetA_none fun p hpm => by
  obtain ⟨x, hx, rfl⟩ := List.mem_map.1 (hp.mem_iff.1 hpm)
  exact hna x hx
theorem PIn.stay {w w' : World} {pp hb : Nat} {most now : Int} {fast : Bool} {gr sr : Int} {hs : List Hd} (h : PIn w pp hb most now fast gr sr hs) {F : Nat → Prop} (hm : Mod F w w') (h1 : ¬ F pp) (h2 : ¬ F hb) (h3 : ∀ x ∈ hs, ¬ F x.p ∧ ¬ F x.c ∧ ¬ F x.b) (hF : NotA w F) : PIn w' pp hb most now fast gr sr hs := by
  obtain ⟨m0, hm0, hma⟩ := h.mp
  exact ⟨h.blk.keep hm h1, ⟨m0, hm0, hma.keep hm h2⟩, fun x hx => (h.gs x hx).keepF hm (h3 x hx).1 (h3 x hx).2.1 (h3 x hx).2.2 hF, h.np, h.nb, h.hb⟩
theorem PIn.lts {w : World} {pp hb : Nat} {most now : Int} {fast : Bool} {gr sr : Int} {hs : List Hd} (h : PIn w pp hb most now fast gr sr hs) : pp < w.heap.size ∧ hb < w.heap.size ∧ ∀ x ∈ hs, x.p < w.heap.size ∧ x.c < w.heap.size ∧ x.b < w.heap.size := ⟨h.blk.lt, by obtain ⟨m0, _, h2⟩ := h.mp; exact h2.lt, fun x hx => (h.gs x hx).lts⟩
theorem PIn.setBlk {w w' : World} {pp hb : Nat} {most now : Int} {fast : Bool} {gr sr gr' sr' : Int} {hs : List Hd} (h : PIn w pp hb most now fast gr sr hs) (hm : Mod (fun k => k = pp) w w') (hb' : Blk w' pp 110 (ptC most now fast hb gr' sr')) : PIn w' pp hb most now fast gr' sr' hs := by
  have hpp := h.blk
  obtain ⟨m0, hm0, hma⟩ := h.mp
  have h1 : hb ≠ pp := fun e => by
    obtain ⟨es, ck, he⟩ := hma.blks
    unfold Blk at hpp
    rw [e, hpp] at he; cases he
  refine ⟨hb', ⟨m0, hm0, hma.keep hm h1⟩, fun x hx => ?_, h.np, h.nb, h.hb⟩
  have hne := h.pne x hx
  exact (h.gs x hx).keepF hm (fun e => hne.1 e.symm) (fun e => by
    obtain ⟨_, ⟨cs, z, hc⟩, _⟩ := (h.gs x hx).blks
    unfold Blk at hpp
    rw [e, hpp] at hc; injection hc with hc; injection hc with _ h2; exact absurd h2 (by decide)) (fun e => hne.2.1 e.symm) (h.blk.notA (by decide))
def RetJ (y : Bool) (e : Ending) : Prop := ∃ (a1 : Option Addr) (n1 c1 : Nat) (a2 : Option Addr) (n2 c2 : Nat) (a3 : Option Addr) (n3 c3 : Nat) (a4 : Option Addr) (n4 c4 : Nat) (x2 : Bool) (a6 : Option Addr) (n6 c6 : Nat) (x3 : Bool), e = .returned (.tuple #[.agg #[.bool true, .slice a1 n1 c1, .slice a2 n2 c2, .slice a3 n3 c3, .slice a4 n4 c4, .bool x2, .slice a6 n6 c6, .bool x3], .bool y])
def HearPost (w : World) (pp hb : Nat) (most now0 : Int) (fast : Bool) (gr sr : Int) (hs : List Hd) (g : Ad) (R : Gs × Int) (e : Ending) (w' : World) : Prop :=
  (most ≤ hs.length → RetJ false e ∧ PIn w' pp hb most now0 fast (gr + 1) sr hs) ∧
  (¬ most ≤ hs.length → RetJ true e ∧ ∃ p c b, PIn w' pp hb most now0 fast gr (sr + R.2) (hs ++ [⟨g, p, c, b, R.1⟩]) ∧ w.heap.size ≤ p ∧ w.heap.size ≤ b) ∧ Mod (fun k => k = pp ∨ k = hb) w w'
set_option maxRecDepth 100000 in
set_option maxHeartbeats 4000000 in
theorem ptHear {w : World} {pp hb : Nat} {most now0 : Int} {fast : Bool} {gr sr : Int} {hs : List Hd} (h : PIn w pp hb most now0 fast gr sr hs) (hl : hs.length ≤ 1000) (hmost : 0 ≤ most ∧ most ≤ 1000) (hgr : 0 ≤ gr ∧ gr ≤ 1000000000000) (hsr : 0 ≤ sr ∧ sr ≤ 1000000000000) (now : Int) (t : Tn) (ht : t.ok) (older k : Int) (g : Ad) (hna : ∀ x ∈ hs, x.a ≠ g) {ad : Option Addr} {n cap : Nat} {l : List Ad} (hr : RT w (.slice ad n cap) l) (hll : l.length ≤ 100)
    {R : Gs × Int} (hR : R = hearG (G0 g.v) now t.member older k l) (hex : R.1.ex = true) (hlost : 0 ≤ R.2 ∧ R.2 ≤ 1000) (hnow : 0 ≤ now ∧ now ≤ 1000000000000) :
    Calls Tryz.prog 64 #[.pointer (some ⟨pp, 0, none⟩), .int .i64 now, .agg t.c.toArray, .int .i64 older, .agg (recC k g (.slice ad n cap)).toArray] w (HearPost w pp hb most now0 fast gr sr hs g R) := by
  have hm0 : Mod (fun _ => False) w (((w.alloc (.cells t.c.toArray 32 (0, 0))).alloc (.cells (recC k g (.slice ad n cap)).toArray 38 (0, 0))).alloc (.cells #[.bool false, .slice none 0 0, .slice none 0 0, .slice none 0 0, .slice none 0 0, .bool false, .slice none 0 0, .bool false] 28 (0, 0))) := (((Mod.refl _ _).alloc _).alloc _).alloc _
  have HI0 := Lib.hid (h.keep0 hm0)
  have HT0 : Hid (Blk (((w.alloc (.cells t.c.toArray 32 (0, 0))).alloc (.cells (recC k g (.slice ad n cap)).toArray 38 (0, 0))).alloc (.cells #[.bool false, .slice none 0 0, .slice none 0 0, .slice none 0 0, .slice none 0 0, .bool false, .slice none 0 0, .bool false] 28 (0, 0))) w.heap.size 32 t.c) := Lib.hid (((Blk.new w _ _).alloc _).alloc _)
  have HRB0 : Hid (Blk (((w.alloc (.cells t.c.toArray 32 (0, 0))).alloc (.cells (recC k g (.slice ad n cap)).toArray 38 (0, 0))).alloc (.cells #[.bool false, .slice none 0 0, .slice none 0 0, .slice none 0 0, .slice none 0 0, .bool false, .slice none 0 0, .bool false] 28 (0, 0))) (w.heap.size + 1) 38 (recC k g (.slice ad n cap))) := Lib.hid (by
    have := (Blk.new (w.alloc (.cells t.c.toArray 32 (0, 0))) 38 (recC k g (.slice ad n cap))).alloc (.cells #[.bool false, .slice none 0 0, .slice none 0 0, .slice none 0 0, .slice none 0 0, .bool false, .slice none 0 0, .bool false] 28 (0, 0))
    rwa [show (w.alloc (.cells t.c.toArray 32 (0, 0))).heap.size = w.heap.size + 1 by simp] at this)
  have HXB0 : Hid (Blk (((w.alloc (.cells t.c.toArray 32 (0, 0))).alloc (.cells (recC k g (.slice ad n cap)).toArray 38 (0, 0))).alloc (.cells #[.bool false, .slice none 0 0, .slice none 0 0, .slice none 0 0, .slice none 0 0, .bool false, .slice none 0 0, .bool false] 28 (0, 0))) (w.heap.size + 2) 28 [.bool false, .slice none 0 0, .slice none 0 0, .slice none 0 0, .slice none 0 0, .bool false, .slice none 0 0, .bool false]) := Lib.hid (by
    have := Blk.new ((w.alloc (.cells t.c.toArray 32 (0, 0))).alloc (.cells (recC k g (.slice ad n cap)).toArray 38 (0, 0))) 28 [.bool false, .slice none 0 0, .slice none 0 0, .slice none 0 0, .slice none 0 0, .bool false, .slice none 0 0, .bool false]
    rwa [show ((w.alloc (.cells t.c.toArray 32 (0, 0))).alloc (.cells (recC k g (.slice ad n cap)).toArray 38 (0, 0))).heap.size = w.heap.size + 2 by simp] at this)
  have HR0 := Lib.hid (hr.keep0 hm0)
  have HM0 : Hid (Mod (fun k => k = pp ∨ k = hb) w (((w.alloc (.cells t.c.toArray 32 (0, 0))).alloc (.cells (recC k g (.slice ad n cap)).toArray 38 (0, 0))).alloc (.cells #[.bool false, .slice none 0 0, .slice none 0 0, .slice none 0 0, .slice none 0 0, .bool false, .slice none 0 0, .bool false] 28 (0, 0)))) := Lib.hid hm0.no
  have HLT := Lib.hid h.lts
  obtain ⟨m0, hmp, hma⟩ := h.mp
  obtain ⟨h1, h2, _⟩ := notHeld g hna hmp
  have HML : Hid (m0.length = hs.length) := Lib.hid (by have := hmp.length_eq; rwa [List.length_map] at this)
  have HPM := Lib.hid hmp
  have HMA0 : Hid (Ma (((w.alloc (.cells t.c.toArray 32 (0, 0))).alloc (.cells (recC k g (.slice ad n cap)).toArray 38 (0, 0))).alloc (.cells #[.bool false, .slice none 0 0, .slice none 0 0, .slice none 0 0, .slice none 0 0, .bool false, .slice none 0 0, .bool false] 28 (0, 0))) hb m0) := Lib.hid (Ma.keep (F := fun _ => False) hma hm0 fun f => f)
  have HN1 := Lib.hid h1
  have HN2 := Lib.hid h2
  have HNA := Lib.hid hna
  have HTO := Lib.hid ht
  have HRC : Hid (∀ k g v, (Tryz.prog.info? 38).map (·.size) = some (recC k g v).length) := Lib.hid fun k g v => recC_sz k g v
  have HGS := Lib.hid g.c_sz
  have HRR := Lib.hid hR
  have HEX := Lib.hid hex
  clear h hm0 hr hmp hma h1 h2 hna ht hR hex
  go_enter Tryz.func64, Tryz.ntmps64
  go_wp2_with fail
  have hS : (((w.alloc (.cells t.c.toArray 32 (0, 0))).alloc (.cells (recC k g (.slice ad n cap)).toArray 38 (0, 0))).alloc (.cells #[.bool false, .slice none 0 0, .slice none 0 0, .slice none 0 0, .slice none 0 0, .bool false, .slice none 0 0, .bool false] 28 (0, 0))).drew.cell? ⟨pp, 3, none⟩ = some (.map (some hb)) ∧ Blk (((w.alloc (.cells t.c.toArray 32 (0, 0))).alloc (.cells (recC k g (.slice ad n cap)).toArray 38 (0, 0))).alloc (.cells #[.bool false, .slice none 0 0, .slice none 0 0, .slice none 0 0, .slice none 0 0, .bool false, .slice none 0 0, .bool false] 28 (0, 0))).drew (w.heap.size + 1) 38 (recC k g (.slice ad n cap)) ∧ Ma (((w.alloc (.cells t.c.toArray 32 (0, 0))).alloc (.cells (recC k g (.slice ad n cap)).toArray 38 (0, 0))).alloc (.cells #[.bool false, .slice none 0 0, .slice none 0 0, .slice none 0 0, .slice none 0 0, .bool false, .slice none 0 0, .bool false] 28 (0, 0))).drew hb m0 := ⟨HI0.out.blk.cell rfl, HRB0.out, Ma.keep (F := fun _ => False) HMA0.out (Mod.refl _ _).drew fun f => f⟩
  refine wp_region_plan [] [(0, 0), (1, 0), (2, 0), (3, 1), (4, 0), (5, 1), (6, 1), (7, 0), (8, 0), (9, 0), (10, 0), (11, 0)] (fun w' : World => w'.cell? ⟨pp, 3, none⟩ = some (.map (some hb)) ∧ Blk w' (w.heap.size + 1) 38 (recC k g (.slice ad n cap)) ∧ Ma w' hb m0) (by kernel_rfl) (by kernel_rfl) (fun d v c a w h => by first | (cases d <;> exact h) | exact HP d v c a w h) ?_
  repeat ((first | refine plan_skip rfl rfl ?_ | refine plan_pass2 rfl rfl ?_ | refine plan_pass3 rfl rfl ?_ | (refine plan_take (v := ?_) rfl rfl ?_ ?_; rotate_left; focus (intro w0; go_simp; try with_reducible rfl)) | (refine plan_held (v := ?_) rfl rfl hS ?_ ?_; rotate_left; focus (intro w0 hSw; (try dsimp only at hSw); go_split_ands; go_simp; try with_reducible rfl)) | refine plan_skip1 rfl rfl hS ?_); simp only [nA, nB, nC, Act.put, nD, nE, nF])
  (refine plan_held (v := .agg g.c.toArray) rfl rfl hS (fun w0 h0 => exec_load_blk _ _ rfl (w.heap.size + 1) 1 rfl 38 (recC k g (.slice ad n cap)) g.c _ w0 h0.2.1 (recC_g _ _ _) Tryz.underlying36 rfl HGS.out) ?_; try simp only [nA, nB, nC, Act.put, nD, nE, nF])
  (refine plan_held (v := .tuple #[.pointer none, .bool false]) rfl rfl hS (fun w0 h0 => exec_lookup_none rfl g rfl rfl HN1.out h0.2.2) ?_; try simp only [nA, nB, nC, Act.put, nD, nE, nF])
  repeat ((first | refine plan_skip rfl rfl ?_ | refine plan_pass2 rfl rfl ?_ | refine plan_pass3 rfl rfl ?_ | (refine plan_take (v := ?_) rfl rfl ?_ ?_; rotate_left; focus (intro w0; go_simp; try with_reducible rfl)) | (refine plan_held (v := ?_) rfl rfl hS ?_ ?_; rotate_left; focus (intro w0 hSw; (try dsimp only at hSw); go_split_ands; go_simp; try with_reducible rfl)) | refine plan_skip1 rfl rfl hS ?_); simp only [nA, nB, nC, Act.put, nD, nE, nF])
  refine plan_nil ?_
  have y1 : (((w.alloc (.cells t.c.toArray 32 (0, 0))).alloc (.cells (recC k g (.slice ad n cap)).toArray 38 (0, 0))).alloc (.cells #[.bool false, .slice none 0 0, .slice none 0 0, .slice none 0 0, .slice none 0 0, .bool false, .slice none 0 0, .bool false] 28 (0, 0))).drew.cell? ⟨w.heap.size + 1, 1, none⟩ = some (.bool g.v) := HRB0.out.cell (recC_1 _ _ _)
  go_wp2_with fail
  refine (gNew g.v _).mono ?_
  rintro e W1 ⟨p, c, b, rfl, hg1, hp, hb1, hc1, hm1'⟩
  have hm1 : Mod (fun _ => False) (((w.alloc (.cells t.c.toArray 32 (0, 0))).alloc (.cells (recC k g (.slice ad n cap)).toArray 38 (0, 0))).alloc (.cells #[.bool false, .slice none 0 0, .slice none 0 0, .slice none 0 0, .slice none 0 0, .bool false, .slice none 0 0, .bool false] 28 (0, 0))) W1 := (Mod.refl _ _).drew.trans hm1' fun _ f => f.elim
  have HI1 := Lib.hid (HI0.out.keep0 hm1)
  have HT1 := Lib.hid (HT0.out.keep hm1 fun f => f)
  have HRB1 := Lib.hid (HRB0.out.keep hm1 fun f => f)
  have HXB1 := Lib.hid (HXB0.out.keep hm1 fun f => f)
  have HR1 := Lib.hid (HR0.out.keep0 hm1)
  have HMA1 := Lib.hid (Ma.keep HMA0.out hm1 fun f => f)
  have HM1 : Hid (Mod (fun k => k = pp ∨ k = hb) w W1) := Lib.hid (HM0.out.trans hm1 fun _ f => f.elim)
  have HPB : Hid (w.heap.size + 3 ≤ p ∧ w.heap.size + 3 ≤ b) := Lib.hid (by
    have e3 : (((w.alloc (.cells t.c.toArray 32 (0, 0))).alloc (.cells (recC k g (.slice ad n cap)).toArray 38 (0, 0))).alloc (.cells #[.bool false, .slice none 0 0, .slice none 0 0, .slice none 0 0, .slice none 0 0, .bool false, .slice none 0 0, .bool false] 28 (0, 0))).drew.heap.size = w.heap.size + 3 := by simp
    omega)
  obtain ⟨ga1, gn1, gk1, ga2, gn2, gk2, GL, hgi⟩ := hg1
  have HG1 := Lib.hid hgi
  have HE0 := Lib.hid (EG.g0 g.v 3000000 (by omega))
  clear hgi hp hb1 hc1 hm1 hm1' y1 hS HI0 HT0 HRB0 HXB0 HR0 HMA0 HM0
  go_wp2_with (first
    | (refine wpList_load_blk rfl _ _ rfl w.heap.size 0 rfl 32 t.c t.c _ HT1.out rfl Tryz.underlying32 rfl tuSz ?_)
    | (refine wpList_load_blk rfl _ _ rfl (w.heap.size + 1) 0 rfl 38 (recC k g (.slice ad n cap)) (recC k g (.slice ad n cap)) _ HRB1.out (List.take_of_length_le (Nat.le_refl _)) Tryz.underlying38 rfl (HRC.out _ _ _) ?_))
  refine (gHear2 sortOk HG1.out (HE0.out.ok (by omega) (by omega)) now (Nat.le_trans (HE0.out.due HG1.out.clk.tl _) (by decide)) t HTO.out older k g HR1.out hll (by show ([] : List Ad).length + ([] : List Ad).length ≤ 300; decide)).mono ?_
  rw [← HRR.out, HEX.out]
  rintro e W2 ⟨⟨a1, c1, a2, n2, c2, a3, n3, c3, a4, n4, c4, x2, a6, n6, c6, x3, rfl⟩, hg2, hm2⟩
  have hnp : NotA W1 (fun k => k = p ∨ k = b) := HG1.out.notA
  have HG2 := Lib.hid hg2
  have HLT1 := Lib.hid HI1.out.lts
  have HI2 : Hid (PIn W2 pp hb most now0 fast gr sr hs) := Lib.hid (HI1.out.stay hm2 (fun f => by have := HLT.out; have := HPB.out; omega) (fun f => by have := HLT.out; have := HPB.out; omega) (fun x hx => by
    have h1 := HLT.out.2.2 x hx
    have h2 := HPB.out
    exact ⟨fun f => by omega, fun f => by omega, fun f => by omega⟩) hnp)
  have HRB2 := Lib.hid (HRB1.out.keep hm2 fun f => by have := HPB.out; omega)
  have HXB2 := Lib.hid (HXB1.out.keep hm2 fun f => by have := HPB.out; omega)
  have HMA2 := Lib.hid (Ma.keep HMA1.out hm2 fun f => by have := HLT.out; have := HPB.out; omega)
  have HM2 : Hid (Mod (fun k => k = pp ∨ k = hb) w W2) := Lib.hid (HM1.out.trans hm2 fun k hk => .inr (by have := HPB.out; omega))
  have HSZ : Hid (w.heap.size + 3 ≤ W2.heap.size) := Lib.hid (by have := HXB1.out.lt; have := hm2.size; omega)
  clear hg2 hm2 hnp HI1 HT1 HRB1 HXB1 HR1 HMA1 HM1 HG1
  go_wp2_with (first
    | (refine wpList_store_blk rfl _ _ _ rfl W2.heap.size 0 28 [.bool false, .slice none 0 0, .slice none 0 0, .slice none 0 0, .slice none 0 0, .bool false, .slice none 0 0, .bool false] [.bool true, .slice a1 R.1.on.length c1, .slice a2 n2 c2, .slice a3 n3 c3, .slice a4 n4 c4, .bool x2, .slice a6 n6 c6, .bool x3] rfl rfl (Blk.new W2 28 [.bool false, .slice none 0 0, .slice none 0 0, .slice none 0 0, .slice none 0 0, .bool false, .slice none 0 0, .bool false]) (by simp) spSz (by simp [Value.oneCell']) ?_; intro W3 HB3 HX3; have HS3 : Hid (Blk W3 W2.heap.size 28 [.bool true, .slice a1 R.1.on.length c1, .slice a2 n2 c2, .slice a3 n3 c3, .slice a4 n4 c4, .bool x2, .slice a6 n6 c6, .bool x3]) := Lib.hid (splice_all HB3.out rfl); have HM23 : Hid (Mod (fun _ => False) W2 W3) := Lib.hid (((Mod.refl _ _).alloc _).trans HX3.out fun k hk => .inr (by omega)))
    | (refine wpList_load_blk rfl _ _ rfl W2.heap.size 0 rfl 28 [.bool true, .slice a1 R.1.on.length c1, .slice a2 n2 c2, .slice a3 n3 c3, .slice a4 n4 c4, .bool x2, .slice a6 n6 c6, .bool x3] [.bool true, .slice a1 R.1.on.length c1, .slice a2 n2 c2] _ HS3.out rfl Tryz.underlying26 rfl stSz ?_))
  refine (fGone _ _ _ _ _ _).mono ?_
  rintro e W4 ⟨rfl, hm4⟩
  have hm24 : Mod (fun _ => False) W2 W4 := HM23.out.trans hm4 fun _ f => f.elim
  have HS4 := Lib.hid (HS3.out.keep hm4 fun f => f)
  have HI4 := Lib.hid (HI2.out.keep0 hm24)
  have HG4 := Lib.hid (HG2.out.keep0 hm24)
  have HRB4 := Lib.hid (HRB2.out.keep hm24 fun f => f)
  have HXB4 := Lib.hid (HXB2.out.keep hm24 fun f => f)
  have HMA4 := Lib.hid (Ma.keep HMA2.out hm24 fun f => f)
  have HM4 : Hid (Mod (fun k => k = pp ∨ k = hb) w W4) := Lib.hid (HM2.out.trans hm24 fun _ f => f.elim)
  clear hm4 hm24 HS3 HB3 HX3 HM23 HI2 HG2 HRB2 HXB2 HMA2 HM2
  have HW2 : Hid (w.heap.size + 3 ≤ W2.heap.size) := Lib.hid (by
    have h1 := HSZ.out
    omega)
  have hS8 : W4.drew.cell? ⟨pp, 3, none⟩ = some (.map (some hb)) ∧ W4.drew.cell? ⟨pp, 0, none⟩ = some (.int .i64 most) ∧ Ma W4.drew hb m0 := ⟨HI4.out.blk.cell rfl, HI4.out.blk.cell rfl, Ma.keep (F := fun _ => False) HMA4.out (Mod.refl _ _).drew fun f => f⟩
  go_wp2_with fail
  refine wp_region_plan [] [(0, 0), (1, 0), (2, 0), (3, 0), (4, 0), (5, 0), (6, 1), (7, 1), (8, 0), (9, 0), (10, 0), (11, 1), (12, 0), (13, 0), (14, 0)] (fun w' : World => w'.cell? ⟨pp, 3, none⟩ = some (.map (some hb)) ∧ w'.cell? ⟨pp, 0, none⟩ = some (.int .i64 most) ∧ Ma w' hb m0) (by kernel_rfl) (by kernel_rfl) (fun d v c a w h => by cases d <;> exact h) ?_
  repeat ((first | refine plan_skip rfl rfl ?_ | refine plan_pass2 rfl rfl ?_ | refine plan_pass3 rfl rfl ?_ | (refine plan_take (v := ?_) rfl rfl ?_ ?_; rotate_left; focus (intro w0; go_simp; try with_reducible rfl)) | (refine plan_held (v := ?_) rfl rfl hS8 ?_ ?_; rotate_left; focus (intro w0 hSw; (try dsimp only at hSw); go_split_ands; go_simp; try with_reducible rfl)) | refine plan_skip1 rfl rfl hS8 ?_); simp only [nA, nB, nC, Act.put, nD, nE, nF])
  (refine plan_held (v := .int .i64 (hs.length : Int)) rfl rfl hS8 (fun w0 h0 => exec_len_n rfl rfl HML.out h0.2.2) ?_; try simp only [nA, nB, nC, Act.put, nD, nE, nF])
  repeat ((first | refine plan_skip rfl rfl ?_ | refine plan_pass2 rfl rfl ?_ | refine plan_pass3 rfl rfl ?_ | (refine plan_take (v := ?_) rfl rfl ?_ ?_; rotate_left; focus (intro w0; go_simp; try with_reducible rfl)) | (refine plan_held (v := ?_) rfl rfl hS8 ?_ ?_; rotate_left; focus (intro w0 hSw; (try dsimp only at hSw); go_split_ands; go_simp; try with_reducible rfl)) | refine plan_skip1 rfl rfl hS8 ?_); simp only [nA, nB, nC, Act.put, nD, nE, nF])
  refine plan_nil ?_
  have hmD : Mod (fun _ => False) W4 W4.drew := (Mod.refl _ _).drew
  obtain ⟨WD, hWD⟩ : ∃ WD, WD = W4.drew := ⟨_, rfl⟩
  rw [← hWD] at hmD ⊢
  have HSD := Lib.hid (HS4.out.keep hmD fun f => f)
  have HID := Lib.hid (HI4.out.keep0 hmD)
  have HGD := Lib.hid (HG4.out.keep0 hmD)
  have HRBD := Lib.hid (HRB4.out.keep hmD fun f => f)
  have HXBD := Lib.hid (HXB4.out.keep hmD fun f => f)
  have HMAD := Lib.hid (Ma.keep HMA4.out hmD fun f => f)
  have HMD : Hid (Mod (fun k => k = pp ∨ k = hb) w WD) := Lib.hid (HM4.out.trans hmD fun _ f => f.elim)
  clear hmD hWD hS8 HS4 HI4 HG4 HRB4 HXB4 HMA4 HM4
  by_cases hfull : most ≤ (hs.length : Int)
  · have d8 : decide ((hs.length : Int) ≥ most) = true := decide_eq_true hfull
    have q8 : (hs.length : Int) ≥ most := hfull
    have y4 : WD.cell? ⟨pp, 4, none⟩ = some (.int .i64 gr) := HID.out.blk.cell rfl
    have ew : IntKind.i64.wrap (gr + 1) = gr + 1 := IntWalk.i64_in _ (by omega)
    go_wp2_with (first
    | (refine wpList_store_blk1 rfl 3 _ _ rfl pp 4 110 _ (.int .i64 (gr + 1)) rfl (by go_simp) HID.out.blk (by simp [ptC]) iSz rfl ?_; intro W5 HB5 HM5; have HSQ : Hid (Blk W5 W2.heap.size 28 [.bool true, .slice a1 R.1.on.length c1, .slice a2 n2 c2, .slice a3 n3 c3, .slice a4 n4 c4, .bool x2, .slice a6 n6 c6, .bool x3]) := Lib.hid (HSD.out.keep HM5.out fun e => by have := HLT.out; have := HW2.out; omega); have HXQ : Hid (Blk W5 (w.heap.size + 2) 28 [.bool false, .slice none 0 0, .slice none 0 0, .slice none 0 0, .slice none 0 0, .bool false, .slice none 0 0, .bool false]) := Lib.hid (HXBD.out.keep HM5.out fun e => by have := HLT.out; omega); have HI5 : Hid (PIn W5 pp hb most now0 fast (gr + 1) sr hs) := Lib.hid (HID.out.setBlk HM5.out HB5.out))
    | (refine wpList_load_blk rfl _ _ rfl W2.heap.size 0 rfl 28 [.bool true, .slice a1 R.1.on.length c1, .slice a2 n2 c2, .slice a3 n3 c3, .slice a4 n4 c4, .bool x2, .slice a6 n6 c6, .bool x3] [.bool true, .slice a1 R.1.on.length c1, .slice a2 n2 c2, .slice a3 n3 c3, .slice a4 n4 c4, .bool x2, .slice a6 n6 c6, .bool x3] _ HSQ.out rfl Tryz.underlying28 rfl spSz ?_)
    | (refine wpList_store_blk rfl _ _ _ rfl (w.heap.size + 2) 0 28 [.bool false, .slice none 0 0, .slice none 0 0, .slice none 0 0, .slice none 0 0, .bool false, .slice none 0 0, .bool false] [.bool true, .slice a1 R.1.on.length c1, .slice a2 n2 c2, .slice a3 n3 c3, .slice a4 n4 c4, .bool x2, .slice a6 n6 c6, .bool x3] rfl rfl HXQ.out (by simp) spSz (by simp [Value.oneCell']) ?_; intro W9 HB9 HM9))
    refine bodyPost_ret (results_blk_tmp rfl _ (w.heap.size + 2) 28 [.bool true, .slice a1 R.1.on.length c1, .slice a2 n2 c2, .slice a3 n3 c3, .slice a4 n4 c4, .bool x2, .slice a6 n6 c6, .bool x3] rfl rfl (splice_all HB9.out rfl) Tryz.underlying28 rfl spSz) rfl ?_
    refine (show HearPost w pp hb most now0 fast gr sr hs g R _ _ from ⟨fun _ => ⟨⟨_, _, _, _, _, _, _, _, _, _, _, _, _, _, _, _, _, rfl⟩, ?_⟩, fun h => absurd hfull h, (HMD.out.trans HM5.out fun k hk => .inl (.inl hk)).trans HM9.out fun k hk => .inr (by omega)⟩)
    have hlt := HLT.out
    exact HI5.out.stay HM9.out (fun e => by omega) (fun e => by omega) (fun x hx => by have h1 := hlt.2.2 x hx; exact ⟨fun e => by omega, fun e => by omega, fun e => by omega⟩) (HXQ.out.notA (by decide))
  · have d8 : decide ((hs.length : Int) ≥ most) = false := decide_eq_false hfull
    have q8 : ¬ (hs.length : Int) ≥ most := hfull
    have hS : WD.drew.cell? ⟨pp, 3, none⟩ = some (.map (some hb)) ∧ Blk WD.drew (w.heap.size + 1) 38 (recC k g (.slice ad n cap)) ∧ Ma WD.drew hb m0 := ⟨HID.out.blk.cell rfl, HRBD.out, Ma.keep (F := fun _ => False) HMAD.out (Mod.refl _ _).drew fun f => f⟩
    go_wp2_with fail
    refine wp_region_plan [7] [(0, 0), (1, 0), (2, 0), (3, 1), (4, 0), (5, 1), (6, 0), (7, 3)] (fun w' : World => w'.cell? ⟨pp, 3, none⟩ = some (.map (some hb)) ∧ Blk w' (w.heap.size + 1) 38 (recC k g (.slice ad n cap)) ∧ Ma w' hb m0) (by kernel_rfl) (by kernel_rfl) (fun d v c a w h => by first | (cases d <;> exact h) | exact HP d v c a w h) ?_
    repeat ((first | refine plan_skip rfl rfl ?_ | refine plan_pass2 rfl rfl ?_ | refine plan_pass3 rfl rfl ?_ | (refine plan_take (v := ?_) rfl rfl ?_ ?_; rotate_left; focus (intro w0; go_simp; try with_reducible rfl)) | (refine plan_held (v := ?_) rfl rfl hS ?_ ?_; rotate_left; focus (intro w0 hSw; (try dsimp only at hSw); go_split_ands; go_simp; try with_reducible rfl)) | refine plan_skip1 rfl rfl hS ?_); simp only [nA, nB, nC, Act.put, nD, nE, nF])
    (refine plan_held (v := .agg g.c.toArray) rfl rfl hS (fun w0 h0 => exec_load_blk _ _ rfl (w.heap.size + 1) 1 rfl 38 (recC k g (.slice ad n cap)) g.c _ w0 h0.2.1 (recC_g _ _ _) Tryz.underlying36 rfl HGS.out) ?_; try simp only [nA, nB, nC, Act.put, nD, nE, nF])
    repeat ((first | refine plan_skip rfl rfl ?_ | refine plan_pass2 rfl rfl ?_ | refine plan_pass3 rfl rfl ?_ | (refine plan_take (v := ?_) rfl rfl ?_ ?_; rotate_left; focus (intro w0; go_simp; try with_reducible rfl)) | (refine plan_held (v := ?_) rfl rfl hS ?_ ?_; rotate_left; focus (intro w0 hSw; (try dsimp only at hSw); go_split_ands; go_simp; try with_reducible rfl)) | refine plan_skip1 rfl rfl hS ?_); simp only [nA, nB, nC, Act.put, nD, nE, nF])
    (refine plan_end rfl rfl rfl fun K hK => ?_; (try simp only [nA, nB, nC]))
    refine wp_update_ma rfl (k := g) (v := .pointer (some ⟨p, 0, none⟩)) rfl rfl rfl hS.2.2 ?_
    intro W5 hma5 hm5
    rw [HN2.out] at hma5
    have HMA5 := Lib.hid hma5
    have hm5' : Mod (fun k => k = hb) WD W5 := ((Mod.refl (fun k => k = hb) WD).drew).trans hm5 fun k hk => .inl hk
    have HM5 := Lib.hid hm5'
    refine hK _ _ ?_
    clear hK K hS hma5 hm5 hm5'
    try simp only [nA, nB, nC, Act.put, nD, nE, nF]
    refine plan_nil ?_
    have hlt := HLT.out
    have hpb := HPB.out
    have hw2 := HW2.out
    have HB5 : Hid (Blk W5 pp 110 (ptC most now0 fast hb gr sr)) := Lib.hid (HID.out.blk.keep HM5.out fun e => by
      obtain ⟨es, ck, he⟩ := HMAD.out.blks
      have hp := HID.out.blk
      unfold Blk at hp
      rw [e, he] at hp; cases hp)
    have y5 : W5.cell? ⟨pp, 5, none⟩ = some (.int .i64 sr) := HB5.out.cell rfl
    have ew : IntKind.i64.wrap (sr + R.2) = sr + R.2 := IntWalk.i64_in _ (by omega)
    have HSE := Lib.hid (HSD.out.keep HM5.out fun e => by omega)
    have HXE := Lib.hid (HXBD.out.keep HM5.out fun e => by omega)
    have hnm : NotA WD (fun k => k = hb) := HMAD.out.notA
    have HGE : Hid (GAt W5 p c b R.1) := Lib.hid (HGD.out.keepF HM5.out (fun e => by omega) (fun e => by
      obtain ⟨_, ⟨cs, z, hc⟩, _⟩ := HGD.out.blks
      obtain ⟨es, ck, he⟩ := HMAD.out.blks
      rw [e, he] at hc; cases hc) (fun e => by omega) hnm)
    have HGO : Hid (∀ x ∈ hs, GAt W5 x.p x.c x.b x.G) := Lib.hid fun x hx => by
      have hne := HID.out.pne x hx
      exact (HID.out.gs x hx).keepF HM5.out hne.2.2.2.1 hne.2.2.2.2 (HID.out.hb x hx) hnm
    clear hnm hlt hpb hw2
    go_wp2_with (first
    | (refine wpList_store_blk1 rfl 3 _ _ rfl pp 5 110 _ (.int .i64 (sr + R.2)) rfl (by go_simp) HB5.out (by simp [ptC]) iSz rfl ?_; intro W6 HB6 HM6; have HSQ : Hid (Blk W6 W2.heap.size 28 [.bool true, .slice a1 R.1.on.length c1, .slice a2 n2 c2, .slice a3 n3 c3, .slice a4 n4 c4, .bool x2, .slice a6 n6 c6, .bool x3]) := Lib.hid (HSE.out.keep HM6.out fun e => by have := HLT.out; have := HW2.out; omega); have HXQ : Hid (Blk W6 (w.heap.size + 2) 28 [.bool false, .slice none 0 0, .slice none 0 0, .slice none 0 0, .slice none 0 0, .bool false, .slice none 0 0, .bool false]) := Lib.hid (HXE.out.keep HM6.out fun e => by have := HLT.out; omega))
    | (refine wpList_load_blk rfl _ _ rfl W2.heap.size 0 rfl 28 [.bool true, .slice a1 R.1.on.length c1, .slice a2 n2 c2, .slice a3 n3 c3, .slice a4 n4 c4, .bool x2, .slice a6 n6 c6, .bool x3] [.bool true, .slice a1 R.1.on.length c1, .slice a2 n2 c2, .slice a3 n3 c3, .slice a4 n4 c4, .bool x2, .slice a6 n6 c6, .bool x3] _ HSQ.out rfl Tryz.underlying28 rfl spSz ?_)
    | (refine wpList_store_blk rfl _ _ _ rfl (w.heap.size + 2) 0 28 [.bool false, .slice none 0 0, .slice none 0 0, .slice none 0 0, .slice none 0 0, .bool false, .slice none 0 0, .bool false] [.bool true, .slice a1 R.1.on.length c1, .slice a2 n2 c2, .slice a3 n3 c3, .slice a4 n4 c4, .bool x2, .slice a6 n6 c6, .bool x3] rfl rfl HXQ.out (by simp) spSz (by simp [Value.oneCell']) ?_; intro W9 HB9 HM9))
    refine bodyPost_ret (results_blk_tmp rfl _ (w.heap.size + 2) 28 [.bool true, .slice a1 R.1.on.length c1, .slice a2 n2 c2, .slice a3 n3 c3, .slice a4 n4 c4, .bool x2, .slice a6 n6 c6, .bool x3] rfl rfl (splice_all HB9.out rfl) Tryz.underlying28 rfl spSz) rfl ?_
    have hlt := HLT.out
    have hpb := HPB.out
    have hw2 := HW2.out
    have hm59 : Mod (fun k => k = pp ∨ k = w.heap.size + 2) W5 W9 := (HM6.out.mono (G := fun k => k = pp ∨ k = w.heap.size + 2) fun k hk => .inl (.inl hk)).trans HM9.out fun k hk => .inl (.inr hk)
    have hn5 : NotA W5 (fun k => k = pp ∨ k = w.heap.size + 2) := fun k hk cur z e => by
      rcases hk with rfl | rfl
      · exact HB5.out.notA (by decide) _ rfl cur z e
      · exact HXE.out.notA (by decide) _ rfl cur z e
    have hne : ∀ {q d f : Nat} {G : Gs}, GAt W5 q d f G → q ≠ w.heap.size + 2 → f ≠ w.heap.size + 2 → GAt W9 q d f G := fun {q d f G} hg h1 h2 => by
      obtain ⟨⟨cs1, z1, b1⟩, ⟨cs2, z2, b2⟩, es, ck, b3⟩ := hg.blks
      have hp := HB5.out
      have hx := HXE.out
      unfold Blk at hp hx
      refine hg.keepF hm59 (fun e => ?_) (fun e => ?_) (fun e => ?_) hn5
      · rcases e with e | e
        · rw [e, hp] at b1; injection b1 with b1; injection b1 with _ b1; exact absurd b1 (by decide)
        · exact h1 e
      · rcases e with e | e
        · rw [e, hp] at b2; injection b2 with b2; injection b2 with _ b2; exact absurd b2 (by decide)
        · rw [e, hx] at b2; injection b2 with b2; injection b2 with _ b2; exact absurd b2 (by decide)
      · rcases e with e | e
        · rw [e, hp] at b3; cases b3
        · exact h2 e
    have hpp9 : Blk W9 pp 110 (ptC most now0 fast hb gr (sr + R.2)) := (show Blk W6 pp 110 (ptC most now0 fast hb gr (sr + R.2)) from HB6.out).keep HM9.out fun e => by omega
    refine (show HearPost w pp hb most now0 fast gr sr hs g R _ _ from ⟨fun h => absurd h (by omega), fun _ => ⟨⟨_, _, _, _, _, _, _, _, _, _, _, _, _, _, _, _, _, rfl⟩, p, c, b, ⟨hpp9, ⟨m0 ++ [(g, .pointer (some ⟨p, 0, none⟩))], ?_, HMA5.out.keep hm59 fun e => ?_⟩, fun x hx => ?_, ?_, ?_, fun x hx => ?_⟩, by omega, by omega⟩, ((HMD.out.trans HM5.out fun k hk => .inl (.inr hk)).trans hm59 fun k hk => ?_)⟩)
    · rw [List.map_append]
      exact HPM.out.append (.refl _)
    · rcases e with e | e
      · obtain ⟨es, ck, he⟩ := HMA5.out.blks
        have hp := HB5.out
        unfold Blk at hp
        rw [e, hp] at he; cases he
      · omega
    · rcases List.mem_append.1 hx with hx | hx
      · have := hlt.2.2 x hx
        exact hne (HGO.out x hx) (by omega) (by omega)
      · rw [List.mem_singleton.1 hx]
        exact hne HGE.out (by show p ≠ _; omega) (by show b ≠ _; omega)
    · rw [List.map_append]
      refine List.nodup_append.2 ⟨HID.out.np, by simp, fun q hq r hr e => ?_⟩
      obtain ⟨x, hx, rfl⟩ := List.mem_map.1 hq
      simp at hr
      have := hlt.2.2 x hx
      omega
    · rw [List.map_append]
      refine List.nodup_append.2 ⟨HID.out.nb, by simp, fun q hq r hr e => ?_⟩
      obtain ⟨x, hx, rfl⟩ := List.mem_map.1 hq
      simp at hr
      have := hlt.2.2 x hx
      omega
    · rcases List.mem_append.1 hx with hx | hx
      · exact HID.out.hb x hx
      · rw [List.mem_singleton.1 hx]
        show b ≠ hb
        omega
    · rcases hk with hk | hk
      · exact .inl (.inl hk)
      · exact .inr (by omega)
end Go.Proofs.YtcccdlmngddalaaGreat
namespace Go.Proofs.YtcccdlmngddalaaGreat
open Go.RowKit
def tkC (g : Ad) : List Value := .bool false :: .int .i64 2 :: .int .i64 2 :: .int .i64 0 :: (g.c ++ [.bool false, .int .i64 0, .int .i64 0, .slice none 0 0, .slice none 0 0])
theorem tkC_len (g : Ad) : (tkC g).length = 26 := by simp [tkC, g.c_len]
theorem tkC_g (g : Ad) : ((tkC g).drop 4).take g.c.length = g.c := by
  show (g.c ++ _).take g.c.length = g.c
  rw [List.take_left' rfl]
theorem elR : Elem Tryz.prog 65 38 (.agg (recC 0 ⟨false, List.replicate 16 0, by rfl, fun x hx => by rw [List.eq_of_mem_replicate hx]; omega⟩ (.slice none 0 0)).toArray) 19 56 := .mk' Tryz.underlying65 (by kernel_rfl) rfl
set_option maxRecDepth 100000 in
theorem older2 (g : Ad) (w : World) : Calls Tryz.prog 65 #[.agg (tkC g).toArray] w fun e w' => e = .returned (.int .i64 2) ∧ Mod (fun _ => False) w w' := by
  have hb := Blk.new w 67 (tkC g)
  have c0 := hb.cell (j := 0) rfl
  have c1 := hb.cell (j := 1) rfl
  have c2 := hb.cell (j := 2) rfl
  have HB := Lib.hid hb
  have HM : Hid (Mod (fun _ => False) w (w.alloc (.cells (tkC g).toArray 67 (0, 0)))) := Lib.hid ((Mod.refl _ _).alloc _)
  have hS : (w.alloc (.cells (tkC g).toArray 67 (0, 0))).drew.cell? ⟨w.heap.size, 2, none⟩ = some (.int .i64 2) ∧ (w.alloc (.cells (tkC g).toArray 67 (0, 0))).drew.cell? ⟨w.heap.size, 1, none⟩ = some (.int .i64 2) ∧ (w.alloc (.cells (tkC g).toArray 67 (0, 0))).drew.cell? ⟨w.heap.size, 0, none⟩ = some (.bool false) := ⟨c2, c1, c0⟩
  clear hb
  go_enter Tryz.func65, Tryz.ntmps65
  go_wp2_with fail
  refine wp_region_plan [] [(0, 0), (1, 1), (2, 0), (3, 0), (4, 0), (5, 1), (6, 0), (7, 1), (8, 2), (9, 0), (10, 0)] (fun w' : World => w'.cell? ⟨w.heap.size, 2, none⟩ = some (.int .i64 2) ∧ w'.cell? ⟨w.heap.size, 1, none⟩ = some (.int .i64 2) ∧ w'.cell? ⟨w.heap.size, 0, none⟩ = some (.bool false)) (by kernel_rfl) (by kernel_rfl) (fun d v c a w h => by first | (cases d <;> exact h) | exact HP d v c a w h) ?_
  repeat ((first | refine plan_skip rfl rfl ?_ | refine plan_pass2 rfl rfl ?_ | refine plan_pass3 rfl rfl ?_ | (refine plan_take (v := ?_) rfl rfl ?_ ?_; rotate_left; focus (intro w0; go_simp; try with_reducible rfl)) | (refine plan_held (v := ?_) rfl rfl hS ?_ ?_; rotate_left; focus (intro w0 hSw; (try dsimp only at hSw); go_split_ands; go_simp; try with_reducible rfl)) | refine plan_skip1 rfl rfl hS ?_); simp only [nA, nB, nC, Act.put, nD, nE, nF])
  (refine plan_do rfl rfl fun K hK => ?_; try simp only [nA, nB, nC])
  go_simp
  refine (last_s _ _).mono ?_
  rintro e w1 ⟨rfl, rfl⟩
  refine hK _ _ hS ?_
  clear hK K
  try simp only [nA, nB, nC, Act.put, nD, nE, nF]
  repeat ((first | refine plan_skip rfl rfl ?_ | refine plan_pass2 rfl rfl ?_ | refine plan_pass3 rfl rfl ?_ | (refine plan_take (v := ?_) rfl rfl ?_ ?_; rotate_left; focus (intro w0; go_simp; try with_reducible rfl)) | (refine plan_held (v := ?_) rfl rfl hS ?_ ?_; rotate_left; focus (intro w0 hSw; (try dsimp only at hSw); go_split_ands; go_simp; try with_reducible rfl)) | refine plan_skip1 rfl rfl hS ?_); simp only [nA, nB, nC, Act.put, nD, nE, nF])
  refine plan_nil ?_
  go_wp2
  go_ret
  exact ⟨rfl, HM.out.drew⟩
theorem foldl_at (off : Nat) : ∀ (l : List Value) (k : Nat) (arr : Array Value), off + k + l.length ≤ arr.size → (l.zipIdx k).foldl (fun cs x => cs.setIfInBounds (off + x.snd) x.fst) arr = (arr.toList.take (off + k) ++ (l ++ arr.toList.drop (off + k + l.length))).toArray
  | [], k, arr, h => by
    simp only [List.zipIdx_nil, List.foldl_nil, List.nil_append, List.length_nil, Nat.add_zero, List.take_append_drop, Array.toArray_toList]
  | a :: l, k, arr, h => by
    rw [List.length_cons] at h
    rw [List.zipIdx_cons, List.foldl_cons, foldl_at off l (k + 1) _ (by simp; omega)]
    have hk : off + k < arr.toList.length := by simp; omega
    have e1 : (arr.setIfInBounds (off + k) a).toList.take (off + (k + 1)) = arr.toList.take (off + k) ++ [a] := by
      rw [Array.toList_setIfInBounds, show off + (k + 1) = off + k + 1 by omega, List.take_add_one, List.take_set_of_le (by omega), List.getElem?_set_self hk]
      rfl
    have e2 : (arr.setIfInBounds (off + k) a).toList.drop (off + (k + 1) + l.length) = arr.toList.drop (off + k + (a :: l).length) := by
      rw [Array.toList_setIfInBounds, List.drop_set_of_lt (by omega), List.length_cons]
      congr 1
      omega
    rw [e1, e2]
    simp
theorem bldRec (g : Ad) : g.c.zipIdx.foldl (fun (cs : Array Value) (x : Value × Nat) => cs.setIfInBounds (1 + x.2) x.1) #[.int .i64 2, .bool false, .int .u8 0, .int .u8 0, .int .u8 0, .int .u8 0, .int .u8 0, .int .u8 0, .int .u8 0, .int .u8 0, .int .u8 0, .int .u8 0, .int .u8 0, .int .u8 0, .int .u8 0, .int .u8 0, .int .u8 0, .int .u8 0, .slice none 0 0] = (recC 2 g (.slice none 0 0)).toArray := by
  rw [foldl_at 1 g.c 0 _ (by rw [g.c_len]; decide), g.c_len]
  rfl
theorem recC_lenR (g : Ad) : (recC 2 g (.slice none 0 0)).length = 19 := recC_len _ _ _
set_option maxRecDepth 100000 in
set_option maxHeartbeats 1000000 in
theorem recs2 (g : Ad) (w : World) : Calls Tryz.prog 62 #[.agg (tkC g).toArray] w fun e w' => ∃ q cap, e = .returned (.slice (some ⟨q, 0, none⟩) 1 cap) ∧ w'.rangeAt q 0 (recC 2 g (.slice none 0 0)) ∧ 1 ≤ cap ∧ Mod (fun _ => False) w w' := by
  have hb := Blk.new w 67 (tkC g)
  have c0 := hb.cell (j := 0) rfl
  have c1 := hb.cell (j := 1) rfl
  have c2 := hb.cell (j := 2) rfl
  have HB := Lib.hid hb
  have HM : Hid (Mod (fun _ => False) w (w.alloc (.cells (tkC g).toArray 67 (0, 0)))) := Lib.hid ((Mod.refl _ _).alloc _)
  have hS : (w.alloc (.cells (tkC g).toArray 67 (0, 0))).drew.cell? ⟨w.heap.size, 2, none⟩ = some (.int .i64 2) ∧ (w.alloc (.cells (tkC g).toArray 67 (0, 0))).drew.cell? ⟨w.heap.size, 1, none⟩ = some (.int .i64 2) ∧ (w.alloc (.cells (tkC g).toArray 67 (0, 0))).drew.cell? ⟨w.heap.size, 0, none⟩ = some (.bool false) := ⟨c2, c1, c0⟩
  have HGS := Lib.hid g.c_sz
  have hbl := bldRec g
  have hgl := g.c_len
  have HRL := Lib.hid (recC_lenR g)
  have HR1 := Lib.hid (recC_one 2 g (.slice none 0 0) rfl)
  clear hb
  go_enter Tryz.func62, Tryz.ntmps62
  go_wp2_with fail
  refine wp_region_plan [] [(0, 0), (1, 1), (2, 0), (3, 0), (4, 0), (5, 1), (6, 0), (7, 1), (8, 2), (9, 0), (10, 0), (11, 0)] (fun w' : World => w'.cell? ⟨w.heap.size, 2, none⟩ = some (.int .i64 2) ∧ w'.cell? ⟨w.heap.size, 1, none⟩ = some (.int .i64 2) ∧ w'.cell? ⟨w.heap.size, 0, none⟩ = some (.bool false)) (by kernel_rfl) (by kernel_rfl) (fun d v c a w h => by first | (cases d <;> exact h) | exact HP d v c a w h) ?_
  repeat ((first | refine plan_skip rfl rfl ?_ | refine plan_pass2 rfl rfl ?_ | refine plan_pass3 rfl rfl ?_ | (refine plan_take (v := ?_) rfl rfl ?_ ?_; rotate_left; focus (intro w0; go_simp; try with_reducible rfl)) | (refine plan_held (v := ?_) rfl rfl hS ?_ ?_; rotate_left; focus (intro w0 hSw; (try dsimp only at hSw); go_split_ands; go_simp; try with_reducible rfl)) | refine plan_skip1 rfl rfl hS ?_); simp only [nA, nB, nC, Act.put, nD, nE, nF])
  (refine plan_do rfl rfl fun K hK => ?_; try simp only [nA, nB, nC])
  go_simp
  refine (last_s _ _).mono ?_
  rintro e w1 ⟨rfl, rfl⟩
  refine hK _ _ hS ?_
  clear hK K
  try simp only [nA, nB, nC, Act.put, nD, nE, nF]
  repeat ((first | refine plan_skip rfl rfl ?_ | refine plan_pass2 rfl rfl ?_ | refine plan_pass3 rfl rfl ?_ | (refine plan_take (v := ?_) rfl rfl ?_ ?_; rotate_left; focus (intro w0; go_simp; try with_reducible rfl)) | (refine plan_held (v := ?_) rfl rfl hS ?_ ?_; rotate_left; focus (intro w0 hSw; (try dsimp only at hSw); go_split_ands; go_simp; try with_reducible rfl)) | refine plan_skip1 rfl rfl hS ?_); simp only [nA, nB, nC, Act.put, nD, nE, nF])
  refine plan_nil ?_
  go_wp2_with (first
    | (refine wpList_load_blk rfl _ _ rfl w.heap.size 4 rfl 67 (tkC g) g.c _ HB.out.drew (tkC_g g) Tryz.underlying36 rfl HGS.out ?_)
    | (refine wpList_buildSlice1 elR rfl _ rfl (recC 2 g (.slice none 0 0)) rfl HRL.out (by decide) (by decide) ?_)
    | (at_builtin; refine wpList_append_one elR rfl (.tmp 35) (.tmp 39) rfl (recC 2 g (.slice none 0 0)).toArray (fun q => w.heap.size ≤ q) (.slice none 0 0) 0 [] ((Row.nil _ _ _ _).alloc _) _ (allocNew _ _) rfl rfl (by simpa using HRL.out) (by simpa using HR1.out) (by omega) (by unfold maxLen; omega) ?_; intro v9 w9 h9 h9m; have H9 := Lib.hid h9; have H9M := Lib.hid h9m; clear h9 h9m))
  obtain ⟨ad, cap, e9, h1, _, h9⟩ := H9.out.form
  obtain ⟨q, e8, _, _, hq⟩ := h9 (by decide)
  subst e8 e9
  go_ret
  refine ⟨q, cap, rfl, fun j v hv => ?_, h1, ?_⟩
  · have := hq j v (by simpa using hv)
    rwa [Nat.zero_add]
  · exact (HM.out.drew.alloc _).trans H9M.out fun k hk => by simp [Value.ownBlock] at hk
end Go.Proofs.YtcccdlmngddalaaGreat
