/- filter.Expire: contract. -/
import Derived.Test.YtcccdlmngddalaaGreatGrX
set_option linter.unusedVariables false
set_option linter.unusedSimpArgs false
namespace Go.Proofs.YtcccdlmngddalaaGreat
open Go.RowKit Go.Sort
section
variable {w : World} {a1 a2 : Option Addr} {n1 c1 n2 c2 : Nat} {on off : List Ad} (h1 : RT w (.slice a1 n1 c1) on) (h2 : RT w (.slice a2 n2 c2) off) (hl1 : on.length ≤ 600) (hl2 : off.length ≤ 600) {a3 : Option Addr} {n3 c3 : Nat} {l : List Ad} (h3 : RdA w (.slice a3 n3 c3) l) (hl3 : l.length ≤ 600)
include h1 h2 h3 hl1 hl2 hl3
set_option maxRecDepth 100000 in
set_option maxHeartbeats 1000000 in
theorem Expire_s (ex : Bool) : Calls Tryz.prog 84 #[.agg #[.bool ex, .slice a1 n1 c1, .slice a2 n2 c2], .slice a3 n3 c3] w (RetS w ex (minA on (ofA l)) (if ex then orA off (andA on (ofA l)) else off)) := by
  have HM0 : Hid (Mod (fun _ => False) w ((w.alloc (.cells #[.bool ex, .slice a1 n1 c1, .slice a2 n2 c2] 26 (0, 0))).alloc (.cells #[.bool false, .slice none 0 0, .slice none 0 0] 26 (0, 0)))) := Lib.hid (((Mod.refl _ _).alloc _).alloc _)
  have HA0 : Hid (Blk ((w.alloc (.cells #[.bool ex, .slice a1 n1 c1, .slice a2 n2 c2] 26 (0, 0))).alloc (.cells #[.bool false, .slice none 0 0, .slice none 0 0] 26 (0, 0))) w.heap.size 26 [.bool ex, .slice a1 n1 c1, .slice a2 n2 c2]) := Lib.hid ((Blk.new w _ _).alloc _)
  have HB0 : Hid (Blk ((w.alloc (.cells #[.bool ex, .slice a1 n1 c1, .slice a2 n2 c2] 26 (0, 0))).alloc (.cells #[.bool false, .slice none 0 0, .slice none 0 0] 26 (0, 0))) (w.heap.size + 1) 26 [.bool false, .slice none 0 0, .slice none 0 0]) := Lib.hid (by
    have := Blk.new (w.alloc (.cells #[.bool ex, .slice a1 n1 c1, .slice a2 n2 c2] 26 (0, 0))) 26 [.bool false, .slice none 0 0, .slice none 0 0]
    rwa [show (w.alloc (.cells #[.bool ex, .slice a1 n1 c1, .slice a2 n2 c2] 26 (0, 0))).heap.size = w.heap.size + 1 by simp] at this)
  have H1 := Lib.hid h1
  have H2 := Lib.hid h2
  have H3 := Lib.hid (h3.keep0 HM0.out)
  have HL : Hid ((ofA l).length ≤ 600) := Lib.hid (Nat.le_trans (ofA_len l) hl3)
  clear h1 h2 h3
  obtain ⟨OF, hOF⟩ : ∃ OF, OF = (if ex then orA off (andA on (ofA l)) else off) := ⟨_, rfl⟩
  rw [← hOF]
  have HOF := Lib.hid hOF
  clear hOF
  cases ex with
  | false =>
    go_enter Tryz.func84, Tryz.ntmps84
    go_wp2_with fail
    refine (Of_s H3.out (by omega)).mono ?_
    rintro e W1 ⟨b1, m1, d1, rfl, hr1, hm1⟩
    have HR1 := Lib.hid hr1.rt
    have HM1 : Hid (Mod (fun _ => False) w W1) := Lib.hid (HM0.out.trans hm1 fun _ f => f.elim)
    have HA1 := Lib.hid (HA0.out.keep hm1 fun f => f)
    have HB1 := Lib.hid (HB0.out.keep hm1 fun f => f)
    have H11 := Lib.hid (RowA.keep0 H1.out HM1.out)
    have H21 := Lib.hid (RowA.keep0 H2.out HM1.out)
    clear hr1 hm1 HM0 HA0 HB0 H1 H2 H3
    go_wp2_with (first
      | (refine wpList_load_blk rfl _ _ rfl w.heap.size 0 rfl 26 _ [.bool false, .slice a1 n1 c1, .slice a2 n2 c2] _ HA1.out rfl Tryz.underlying26 rfl stSz ?_)
      | (go_at_call 125; refine (fown_s false H11.out H21.out (by omega) (by omega)).mono ?_; rintro e W2 ⟨b2, m2, d2, b3, m3, d3, rfl, q1, q2, qm⟩; have Q1 := Lib.hid q1; have Q2 := Lib.hid q2; have HM2 : Hid (Mod (fun _ => False) w W2) := Lib.hid (HM1.out.trans qm fun _ f => f.elim); have HA2 := Lib.hid (HA1.out.keep qm fun f => f); have HB2 := Lib.hid (HB1.out.keep qm fun f => f); have HR2 := Lib.hid (HR1.out.keep0 qm); have H12 := Lib.hid (H11.out.keep0 qm); have H22 := Lib.hid (H21.out.keep0 qm); clear q1 q2 qm)
      | (refine wpList_store_blk rfl _ _ _ rfl W2.heap.size 0 26 [.bool false, .slice none 0 0, .slice none 0 0] [.bool false, .slice b2 m2 d2, .slice b3 m3 d3] rfl rfl (Blk.new _ _ _) (by simp) stSz (by simp [Value.oneCell']) ?_; intro W3 HX3 HY3; have HQ3 : Hid (Mod (fun _ => False) W2 W3) := Lib.hid (((Mod.refl _ _).alloc _).trans HY3.out fun k hk => .inr (by omega)); have HLT : Hid (w.heap.size + 1 < W2.heap.size) := Lib.hid HB2.out.lt; have HP3 : Hid (Blk W3 W2.heap.size 26 [.bool false, .slice b2 m2 d2, .slice b3 m3 d3]) := Lib.hid (splice_all HX3.out rfl); have HM3 : Hid (Mod (fun _ => False) w W3) := Lib.hid (HM2.out.trans HQ3.out fun _ f => f.elim); have HA3 := Lib.hid (HA2.out.keep HQ3.out fun f => f); have HB3 := Lib.hid (HB2.out.keep HQ3.out fun f => f); have HR3 := Lib.hid (HR2.out.keep0 HQ3.out); have H13 := Lib.hid (H12.out.keep0 HQ3.out); have H23 := Lib.hid (H22.out.keep0 HQ3.out); have Q13 := Lib.hid (Q1.out.keep0 HQ3.out); have Q23 := Lib.hid (Q2.out.keep0 HQ3.out); have x1 := HA3.out.cell (j := 1) rfl)
      | (go_at_call 126; refine (Minus_s H13.out.rd HR3.out.rd (by omega) (by have := HL.out; omega)).mono ?_; rintro e W4 ⟨b4, m4, d4, rfl, hr4, hm4⟩; have HR4 := Lib.hid hr4.rt; have HM4 : Hid (Mod (fun _ => False) w W4) := Lib.hid (HM3.out.trans hm4 fun _ f => f.elim); have HA4 := Lib.hid (HA3.out.keep hm4 fun f => f); have HB4 := Lib.hid (HB3.out.keep hm4 fun f => f); have HP4 := Lib.hid (HP3.out.keep hm4 fun f => f); have HS4 := Lib.hid (HR3.out.keep0 hm4); have H14 := Lib.hid (H13.out.keep0 hm4); have H24 := Lib.hid (H23.out.keep0 hm4); have Q24 := Lib.hid (Q23.out.keep0 hm4); clear hr4 hm4)
      | (refine wpList_store_blk1 rfl _ _ _ rfl W2.heap.size 1 26 _ (.slice b4 m4 d4) rfl rfl HP4.out (by simp) slASz rfl ?_; intro W5 HX5 HY5; have HP5 : Hid (Blk W5 W2.heap.size 26 [.bool false, .slice b4 m4 d4, .slice b3 m3 d3]) := Lib.hid HX5.out; have HM5 : Hid (Mod (fun _ => False) w W5) := Lib.hid (HM4.out.trans HY5.out fun k hk => .inr (by have := HLT.out; omega)); have HA5 := Lib.hid (HA4.out.keep HY5.out fun e => by have := HLT.out; omega); have HB5 := Lib.hid (HB4.out.keep HY5.out fun e => by have := HLT.out; omega); have HR5 := Lib.hid (HR4.out.keepT HY5.out (HP4.out.notA (by decide))); have HS5 := Lib.hid (HS4.out.keepT HY5.out (HP4.out.notA (by decide))); have H15 := Lib.hid (H14.out.keepT HY5.out (HP4.out.notA (by decide))); have H25 := Lib.hid (H24.out.keepT HY5.out (HP4.out.notA (by decide))); have Q25 := Lib.hid (Q24.out.keepT HY5.out (HP4.out.notA (by decide))); have y0 := HA5.out.cell (j := 0) rfl)
      | (refine wpList_load_blk rfl _ _ rfl W2.heap.size 0 rfl 26 _ [.bool false, .slice b4 m4 d4, .slice b3 m3 d3] _ HP5.out rfl Tryz.underlying26 rfl stSz ?_)
      | (refine wpList_store_blk rfl _ _ _ rfl (w.heap.size + 1) 0 26 _ [.bool false, .slice b4 m4 d4, .slice b3 m3 d3] rfl rfl HB5.out (by simp) stSz (by simp [Value.oneCell']) ?_; intro WE HBE HXE))
    have HOE : Hid (OF = off) := Lib.hid HOF.out
    refine bodyPost_ret (results_blk rfl _ (w.heap.size + 1) 26 [.bool false, .slice b4 m4 d4, .slice b3 m3 d3] rfl (splice_all HBE.out rfl) Tryz.underlying26 rfl stSz) rfl ?_
    exact ⟨_, _, _, _, _, _, rfl, HR5.out.keepT HXE.out (HB5.out.notA (by decide)), by rw [HOE.out]; exact Q25.out.keepT HXE.out (HB5.out.notA (by decide)), HM5.out.trans HXE.out fun k hk => .inr (by omega)⟩
  | true =>
    go_enter Tryz.func84, Tryz.ntmps84
    go_wp2_with fail
    refine (Of_s H3.out (by omega)).mono ?_
    rintro e W1 ⟨b1, m1, d1, rfl, hr1, hm1⟩
    have HR1 := Lib.hid hr1.rt
    have HM1 : Hid (Mod (fun _ => False) w W1) := Lib.hid (HM0.out.trans hm1 fun _ f => f.elim)
    have HA1 := Lib.hid (HA0.out.keep hm1 fun f => f)
    have HB1 := Lib.hid (HB0.out.keep hm1 fun f => f)
    have H11 := Lib.hid (RowA.keep0 H1.out HM1.out)
    have H21 := Lib.hid (RowA.keep0 H2.out HM1.out)
    clear hr1 hm1 HM0 HA0 HB0 H1 H2 H3
    go_wp2_with (first
      | (refine wpList_load_blk rfl _ _ rfl w.heap.size 0 rfl 26 _ [.bool true, .slice a1 n1 c1, .slice a2 n2 c2] _ HA1.out rfl Tryz.underlying26 rfl stSz ?_)
      | (go_at_call 125; refine (fown_s true H11.out H21.out (by omega) (by omega)).mono ?_; rintro e W2 ⟨b2, m2, d2, b3, m3, d3, rfl, q1, q2, qm⟩; have Q1 := Lib.hid q1; have Q2 := Lib.hid q2; have HM2 : Hid (Mod (fun _ => False) w W2) := Lib.hid (HM1.out.trans qm fun _ f => f.elim); have HA2 := Lib.hid (HA1.out.keep qm fun f => f); have HB2 := Lib.hid (HB1.out.keep qm fun f => f); have HR2 := Lib.hid (HR1.out.keep0 qm); have H12 := Lib.hid (H11.out.keep0 qm); have H22 := Lib.hid (H21.out.keep0 qm); clear q1 q2 qm)
      | (refine wpList_store_blk rfl _ _ _ rfl W2.heap.size 0 26 [.bool false, .slice none 0 0, .slice none 0 0] [.bool true, .slice b2 m2 d2, .slice b3 m3 d3] rfl rfl (Blk.new _ _ _) (by simp) stSz (by simp [Value.oneCell']) ?_; intro W3 HX3 HY3; have HQ3 : Hid (Mod (fun _ => False) W2 W3) := Lib.hid (((Mod.refl _ _).alloc _).trans HY3.out fun k hk => .inr (by omega)); have HLT : Hid (w.heap.size + 1 < W2.heap.size) := Lib.hid HB2.out.lt; have HP3 : Hid (Blk W3 W2.heap.size 26 [.bool true, .slice b2 m2 d2, .slice b3 m3 d3]) := Lib.hid (splice_all HX3.out rfl); have HM3 : Hid (Mod (fun _ => False) w W3) := Lib.hid (HM2.out.trans HQ3.out fun _ f => f.elim); have HA3 := Lib.hid (HA2.out.keep HQ3.out fun f => f); have HB3 := Lib.hid (HB2.out.keep HQ3.out fun f => f); have HR3 := Lib.hid (HR2.out.keep0 HQ3.out); have H13 := Lib.hid (H12.out.keep0 HQ3.out); have H23 := Lib.hid (H22.out.keep0 HQ3.out); have Q13 := Lib.hid (Q1.out.keep0 HQ3.out); have Q23 := Lib.hid (Q2.out.keep0 HQ3.out); have x1 := HA3.out.cell (j := 1) rfl)
      | (go_at_call 126; refine (Minus_s H13.out.rd HR3.out.rd (by omega) (by have := HL.out; omega)).mono ?_; rintro e W4 ⟨b4, m4, d4, rfl, hr4, hm4⟩; have HR4 := Lib.hid hr4.rt; have HM4 : Hid (Mod (fun _ => False) w W4) := Lib.hid (HM3.out.trans hm4 fun _ f => f.elim); have HA4 := Lib.hid (HA3.out.keep hm4 fun f => f); have HB4 := Lib.hid (HB3.out.keep hm4 fun f => f); have HP4 := Lib.hid (HP3.out.keep hm4 fun f => f); have HS4 := Lib.hid (HR3.out.keep0 hm4); have H14 := Lib.hid (H13.out.keep0 hm4); have H24 := Lib.hid (H23.out.keep0 hm4); have Q24 := Lib.hid (Q23.out.keep0 hm4); clear hr4 hm4)
      | (refine wpList_store_blk1 rfl _ _ _ rfl W2.heap.size 1 26 _ (.slice b4 m4 d4) rfl rfl HP4.out (by simp) slASz rfl ?_; intro W5 HX5 HY5; have HP5 : Hid (Blk W5 W2.heap.size 26 [.bool true, .slice b4 m4 d4, .slice b3 m3 d3]) := Lib.hid HX5.out; have HM5 : Hid (Mod (fun _ => False) w W5) := Lib.hid (HM4.out.trans HY5.out fun k hk => .inr (by have := HLT.out; omega)); have HA5 := Lib.hid (HA4.out.keep HY5.out fun e => by have := HLT.out; omega); have HB5 := Lib.hid (HB4.out.keep HY5.out fun e => by have := HLT.out; omega); have HR5 := Lib.hid (HR4.out.keepT HY5.out (HP4.out.notA (by decide))); have HS5 := Lib.hid (HS4.out.keepT HY5.out (HP4.out.notA (by decide))); have H15 := Lib.hid (H14.out.keepT HY5.out (HP4.out.notA (by decide))); have H25 := Lib.hid (H24.out.keepT HY5.out (HP4.out.notA (by decide))); have Q25 := Lib.hid (Q24.out.keepT HY5.out (HP4.out.notA (by decide))); have y0 := HA5.out.cell (j := 0) rfl))
    have HOE : Hid (OF = orA off (andA on (ofA l))) := Lib.hid HOF.out
    have hS : W5.drew.cell? ⟨w.heap.size, 1, none⟩ = some (.slice a1 n1 c1) ∧ W5.drew.cell? ⟨w.heap.size, 2, none⟩ = some (.slice a2 n2 c2) := ⟨HA5.out.cell rfl, HA5.out.cell rfl⟩
    go_wp2_with fail
    refine wp_region_plan [8] [(0, 0), (1, 1), (2, 0), (3, 1), (4, 0), (5, 2), (6, 2), (7, 0), (8, 3)] (fun w' : World => w'.cell? ⟨w.heap.size, 1, none⟩ = some (.slice a1 n1 c1) ∧ w'.cell? ⟨w.heap.size, 2, none⟩ = some (.slice a2 n2 c2)) (by kernel_rfl) (by kernel_rfl) (fun d v c a w h => by first | (cases d <;> exact h) | exact HP d v c a w h) ?_
    repeat ((first | refine plan_skip rfl rfl ?_ | refine plan_pass2 rfl rfl ?_ | refine plan_pass3 rfl rfl ?_ | (refine plan_take (v := ?_) rfl rfl ?_ ?_; rotate_left; focus (intro w0; go_simp; try with_reducible rfl)) | (refine plan_held (v := ?_) rfl rfl hS ?_ ?_; rotate_left; focus (intro w0 hSw; (try dsimp only at hSw); go_split_ands; go_simp; try with_reducible rfl)) | refine plan_skip1 rfl rfl hS ?_); simp only [nA, nB, nC, Act.put, nD, nE, nF])
    (refine plan_do rfl rfl fun K hK => ?_; try simp only [nA, nB, nC])
    go_simp
    refine (And_s (w := W5.drew) H15.out.rd HS5.out.rd (by omega) (by have := HL.out; omega)).mono ?_
    rintro e W6 ⟨b6, m6, d6, rfl, hr6, hm6⟩
    have HR6 := Lib.hid hr6.rt
    have HM6 : Hid (Mod (fun _ => False) w W6) := Lib.hid (HM5.out.drew.trans hm6 fun _ f => f.elim)
    have HB6 := Lib.hid (HB5.out.drew.keep hm6 fun f => f)
    have HP6 := Lib.hid (HP5.out.drew.keep hm6 fun f => f)
    have H26 : Hid (RT W6 (.slice a2 n2 c2) off) := Lib.hid (RowA.keep0 (w := W5.drew) H25.out hm6)
    have HR56 : Hid (RT W6 (.slice b4 m4 d4) _) := Lib.hid (RowA.keep0 (w := W5.drew) HR5.out hm6)
    have hs61 := hm6.cell (fun f => f) hS.1
    have hs62 := hm6.cell (fun f => f) hS.2
    refine hK _ _ ⟨hs61, hs62⟩ ?_
    clear hK K hr6 hm6 hS
    try simp only [nA, nB, nC, Act.put, nD, nE, nF]
    repeat ((first | refine plan_skip rfl rfl ?_ | refine plan_pass2 rfl rfl ?_ | refine plan_pass3 rfl rfl ?_ | (refine plan_take (v := ?_) rfl rfl ?_ ?_; rotate_left; focus (intro w0; go_simp; try with_reducible rfl))); simp only [nA, nB, nC, Act.put, nD, nE, nF])
    (refine plan_do rfl rfl fun K hK => ?_; try simp only [nA, nB, nC])
    go_simp
    refine (Or_s H26.out.rd HR6.out.rd (by omega) (by have := (andA_len on (ofA l)).1; omega)).mono ?_
    rintro e W7 ⟨b7, m7, d7, rfl, hr7, hm7⟩
    have HR7 := Lib.hid hr7.rt
    have HM7 : Hid (Mod (fun _ => False) w W7) := Lib.hid (HM6.out.trans hm7 fun _ f => f.elim)
    have HB7 := Lib.hid (HB6.out.keep hm7 fun f => f)
    have HP7 := Lib.hid (HP6.out.keep hm7 fun f => f)
    have HR57 := Lib.hid (HR56.out.keep0 hm7)
    refine hK _ _ ⟨hm7.cell (fun f => f) hs61, hm7.cell (fun f => f) hs62⟩ ?_
    clear hK K hr7 hm7 hs61 hs62
    try simp only [nA, nB, nC, Act.put, nD, nE, nF]
    repeat ((first | refine plan_skip rfl rfl ?_ | refine plan_pass2 rfl rfl ?_ | refine plan_pass3 rfl rfl ?_ | (refine plan_take (v := ?_) rfl rfl ?_ ?_; rotate_left; focus (intro w0; go_simp; try with_reducible rfl))); simp only [nA, nB, nC, Act.put, nD, nE, nF])
    (refine plan_end rfl rfl rfl fun K hK => ?_; (try simp only [nA, nB, nC]))
    refine wp_store_blk1 24 _ _ rfl W2.heap.size 2 26 _ (.slice b7 m7 d7) rfl rfl HP7.out (by simp) slASz rfl ?_
    intro W8 HX8 HY8
    have HP8 : Hid (Blk W8 W2.heap.size 26 [.bool true, .slice b4 m4 d4, .slice b7 m7 d7]) := Lib.hid HX8.out
    have HB8 := Lib.hid (HB7.out.keep HY8.out fun e => by have := HLT.out; omega)
    have HR78 := Lib.hid (HR7.out.keepT HY8.out (HP7.out.notA (by decide)))
    have HR58 := Lib.hid (HR57.out.keepT HY8.out (HP7.out.notA (by decide)))
    have HM8 : Hid (Mod (fun _ => False) w W8) := Lib.hid (HM7.out.trans HY8.out fun k hk => .inr (by have := HLT.out; omega))
    refine hK _ _ ?_
    clear hK K
    try simp only [nA, nB, nC, Act.put, nD, nE, nF]
    refine plan_nil ?_
    go_wp2_with (first
      | (refine wpList_load_blk rfl _ _ rfl W2.heap.size 0 rfl 26 _ [.bool true, .slice b4 m4 d4, .slice b7 m7 d7] _ HP8.out rfl Tryz.underlying26 rfl stSz ?_)
      | (refine wpList_store_blk rfl _ _ _ rfl (w.heap.size + 1) 0 26 _ [.bool true, .slice b4 m4 d4, .slice b7 m7 d7] rfl rfl HB8.out (by simp) stSz (by simp [Value.oneCell']) ?_; intro WE HBE HXE))
    refine bodyPost_ret (results_blk rfl _ (w.heap.size + 1) 26 [.bool true, .slice b4 m4 d4, .slice b7 m7 d7] rfl (splice_all HBE.out rfl) Tryz.underlying26 rfl stSz) rfl ?_
    exact ⟨_, _, _, _, _, _, rfl, HR58.out.keepT HXE.out (HB8.out.notA (by decide)), by rw [HOE.out]; exact HR78.out.keepT HXE.out (HB8.out.notA (by decide)), HM8.out.trans HXE.out fun k hk => .inr (by omega)⟩
end
end Go.Proofs.YtcccdlmngddalaaGreat
