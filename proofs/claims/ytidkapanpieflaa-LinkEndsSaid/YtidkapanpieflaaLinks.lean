/- LinkEnds: the walk. -/
import Derived.Test.YtidkapanpieflaaLinkAct
import Derived.Test.YtidkapanpieflaaLives29
namespace Go.Proofs.Ytidkapanpieflaa
open Go.RowKit
set_option linter.unusedVariables false
set_option linter.unusedSimpArgs false
set_option maxHeartbeats 40000000 in
set_option maxRecDepth 100000 in
theorem links_walk (a0 a1 : Int) (h10 : 0 ≤ a1) (h11 : a1 < 4294967296) (v : Value) (n : Nat) (l : Nat → LinkActV) (w : World) (hl : LinkRow w v n l) :
    Calls Try.prog 8 #[.int .i64 a0, .int .u32 a1, v] w fun e w' => e = .returned (.bool true) ∧ Mod (fun _ => False) w w' := by
  obtain ⟨ad, cap, rfl, hn, hc, hg⟩ := hl
  have hn63 : n ≤ 9223372036854775807 := by unfold maxLen at hc; omega
  have HG := Lib.hid hg
  clear hg
  go_enter Try.func8, Try.ntmps8
  go_wp2_with fail
  refine (NewEnd_any a0 a1 _ h10 h11).mono ?_; rintro e w1 ⟨p, rfl, he, hm⟩
  obtain ⟨c1, hC, he⟩ : ∃ c, Col w w1 c ∧ EndAt w1 p (fun k => c k = 1) (Life.fresh a0 true a1) := ⟨_, (Col.start w).still hm 1, he.mono (paint_born (fun _ => 0) w w1 1)⟩
  have HC := Lib.hid hC
  have HE := Lib.hid he
  clear hC he hm
  go_wp2_with fail
  refine (RNew_any a0 true a1 _ h10 h11).mono ?_; rintro e w2 ⟨q, rfl, hx, hm⟩
  have HF : Hid (LinkM w w2 p q (paint c1 w1 w2 2) (Life.fresh a0 true a1) (RLife.fresh a0 true a1)) := Lib.hid ⟨HC.out.still hm 2, (HE.out.keep hm fun _ _ f => f).mono (paint_away HC.out (by decide) 2), hx.mono (paint_born c1 w1 w2 2)⟩
  clear HC HE hx hm
  go_wp2_with fail
  go_loopw [9] (fun i wr => ∃ (j : Nat) (c : Nat → Nat) (L : Life) (X : RLife), j ≤ n ∧ j ≤ 40 ∧ i = .int .i64 j ∧ LinkM w wr p q c L X ∧ LinkL L X j) (fun i _ => n - (intOf i).toNat)
  case atStart => exact ⟨0, _, _, _, Nat.zero_le _, by decide, rfl, HF.out, ⟨fresh_abs _ _ _, rfl, Nat.zero_le _, Nat.zero_le _⟩⟩
  case round =>
    obtain ⟨j, c, L, X, hj, hj40, rfl, hM, hL⟩ := hrel
    have HM := Lib.hid hM
    have HL := Lib.hid hL
    have hnl := hL.nl
    have hnr := hL.nr
    clear hM hL HF
    by_cases hlt : j < n
    · by_cases h40 : j < 40
      · obtain ⟨g, o, rfl, hgl, hcg⟩ := HG.out (by omega)
        obtain ⟨hok, hcl⟩ := hcg j hlt
        obtain ⟨z, hz⟩ : ∃ z, z = l j := ⟨_, rfl⟩
        rw [← hz] at hok hcl
        have x0 : wr.cell? ⟨g, o + j * 9, none⟩ = some (.int .i64 z.kind) := HM.out.col.mod.cell (fun f => f) (hcl 0 _ rfl)
        have x1 : wr.cell? ⟨g, o + j * 9 + 1, none⟩ = some (.int .i64 z.node) := HM.out.col.mod.cell (fun f => f) (hcl 1 _ rfl)
        have x2 : wr.cell? ⟨g, o + j * 9 + 2, none⟩ = some (.int .i64 z.m.node) := HM.out.col.mod.cell (fun f => f) (hcl 2 _ rfl)
        have x3 : wr.cell? ⟨g, o + j * 9 + 3, none⟩ = some (.bool z.m.up) := HM.out.col.mod.cell (fun f => f) (hcl 3 _ rfl)
        have x4 : wr.cell? ⟨g, o + j * 9 + 4, none⟩ = some (.int .u32 z.m.epoch) := HM.out.col.mod.cell (fun f => f) (hcl 4 _ rfl)
        have x5 : wr.cell? ⟨g, o + j * 9 + 5, none⟩ = some (.int .i64 z.m.kind) := HM.out.col.mod.cell (fun f => f) (hcl 5 _ rfl)
        have x6 : wr.cell? ⟨g, o + j * 9 + 6, none⟩ = some (.int .u32 z.m.ack) := HM.out.col.mod.cell (fun f => f) (hcl 6 _ rfl)
        have x7 : wr.cell? ⟨g, o + j * 9 + 7, none⟩ = some (.int .u32 z.m.seq) := HM.out.col.mod.cell (fun f => f) (hcl 7 _ rfl)
        have x8 : wr.cell? ⟨g, o + j * 9 + 8, none⟩ = some (.string z.m.body) := HM.out.col.mod.cell (fun f => f) (hcl 8 _ rfl)
        have HZC : Hid (z.cells = #[.int .i64 z.kind, .int .i64 z.node, .int .i64 z.m.node, .bool z.m.up, .int .u32 z.m.epoch, .int .i64 z.m.kind, .int .u32 z.m.ack, .int .u32 z.m.seq, .string z.m.body]) := Lib.hid rfl
        have hki : (j : Int) < (n : Int) := by omega
        have hki4 : (j : Int) < 40 := by omega
        clear hcg hcl hz
        go_wp2_with fail
        rw [← HZC.out]
        refine (LinkAct_any z _).mono ?_; rintro e w3 ⟨rfl, hm⟩
        have HM3 := Lib.hid (HM.out.still hm 8)
        obtain ⟨kd, hkd⟩ : ∃ kd, kd = z.kind := ⟨_, rfl⟩
        obtain ⟨m, hmz⟩ : ∃ m : MsgV, m = z.cut.m := ⟨_, rfl⟩
        have hzc : z.cut.cells = #[.int .i64 kd, .int .i64 z.node, .int .i64 m.node, .bool m.up, .int .u32 m.epoch, .int .i64 m.kind, .int .u32 m.ack, .int .u32 m.seq, .string m.body] := by rw [hkd, hmz]; rfl
        rw [hzc]
        have hmok : m.Ok := by rw [hmz]; exact ⟨hok.a0, hok.a1, hok.s0, hok.s1, hok.e0, hok.e1, hok.n0, hok.n1, hok.k0, hok.k1⟩
        have HOK := Lib.hid hmok
        generalize z.node = zn
        clear hm hzc hmok hok hmz HZC hkd x0 x1 x2 x3 x4 x5 x6 x7 x8
        rcases (show kd = 0 ∨ kd = 1 ∨ kd = 2 ∨ kd = 3 ∨ (kd < 0 ∨ 3 < kd) by omega) with rfl | rfl | rfl | rfl | hkd
        · as_aux_lemma =>
            obtain ⟨wA, hwA⟩ : ∃ wA, wA = (w3.alloc (.cells #[.int .i64 0, .int .i64 zn, .int .i64 m.node, .bool m.up, .int .u32 m.epoch, .int .i64 m.kind, .int .u32 m.ack, .int .u32 m.seq, .string m.body] 67)) := ⟨_, rfl⟩
            have hbA : wA.heap[w3.heap.size]? = _ := hwA ▸ allocNew w3 _
            obtain ⟨c4, hM4, hcp⟩ : ∃ c4, LinkM w wA p q c4 L X ∧ c4 w3.heap.size = 9 := ⟨_, HM3.out.still (hwA ▸ (Mod.refl _ _).alloc _) 9, paint_born _ w3 wA 9 _ (Nat.le_refl _) (by rw [hwA]; simp)⟩
            have HM4 := Lib.hid hM4
            have HB4 := Lib.hid hbA
            have HP4 := Lib.hid hcp
            have hok : X.s.Ok := by obtain ⟨_, _, _, _, h, _⟩ := hM4.x.sub; exact h.1
            have HSOK := Lib.hid hok
            have HAB := Lib.hid HL.out.abs
            have HUP := Lib.hid HL.out.up
            clear hM4 hbA hcp hok HM3
            go_wp2_with fail
            obtain ⟨qo4, fs4, _, hq34, _⟩ := (HM4.out.drew).x.sub
            rw [← hwA]
            have hS : wA.drew.cell? ⟨q, 3, none⟩ = some (.pointer (some ⟨qo4, 0, none⟩)) ∧ wA.drew.cell? ⟨w3.heap.size, 8, none⟩ = some (.string m.body) := ⟨hq34, cellOf HB4.out 8⟩
            have HFU : Hid (L.out.full = X.s.free) := Lib.hid (by rw [← HAB.out]; exact snd_full HSOK.out)
            clear hwA hq34
            refine wp_region_plan [] [(0, 0), (1, 0), (2, 0), (3, 1), (5, 0), (6, 0), (7, 0), (8, 1), (9, 0), (10, 0), (11, 1), (4, 2), (12, 2), (13, 0)] (fun w' : World => w'.cell? ⟨q, 3, none⟩ = some (.pointer (some ⟨qo4, 0, none⟩)) ∧ w'.cell? ⟨w3.heap.size, 8, none⟩ = some (.string m.body)) (by kernel_rfl) (by kernel_rfl) (fun d _ _ _ _ h => by cases d <;> exact h) ?_
            repeat (first | (refine plan_skip rfl rfl ?_; simp only [List.getElem_toArray, List.getElem_cons_succ, List.getElem_cons_zero, Act.put, List.setIfInBounds_toArray, List.set_cons_zero, List.set_cons_succ]) | (refine plan_pass2 rfl rfl ?_; simp only [List.getElem_toArray, List.getElem_cons_succ, List.getElem_cons_zero, Act.put, List.setIfInBounds_toArray, List.set_cons_zero, List.set_cons_succ]) | (refine plan_pass3 rfl rfl ?_; simp only [List.getElem_toArray, List.getElem_cons_succ, List.getElem_cons_zero, Act.put, List.setIfInBounds_toArray, List.set_cons_zero, List.set_cons_succ]) | (refine plan_take (v := ?_) rfl rfl ?_ ?_; rotate_left; (focus (intro w0; go_simp; try with_reducible rfl)); simp only [List.getElem_toArray, List.getElem_cons_succ, List.getElem_cons_zero, Act.put, List.setIfInBounds_toArray, List.set_cons_zero, List.set_cons_succ]) | (refine plan_held (v := ?_) rfl rfl hS ?_ ?_; rotate_left; (focus (intro w0 hSw; (try dsimp only at hSw); go_split_ands; go_simp; try with_reducible rfl)); simp only [List.getElem_toArray, List.getElem_cons_succ, List.getElem_cons_zero, Act.put, List.setIfInBounds_toArray, List.set_cons_zero, List.set_cons_succ])  | (refine plan_skip1 rfl rfl hS ?_; simp only [List.getElem_toArray, List.getElem_cons_succ, List.getElem_cons_zero, Act.put, List.setIfInBounds_toArray, List.set_cons_zero, List.set_cons_succ]))
            (refine plan_do rfl rfl fun K hK => ?_; try simp only [List.getElem_toArray, List.getElem_cons_succ, List.getElem_cons_zero])
            go_simp
            refine (EPush_any p _ L m.body _ (HM4.out.drew).e).mono ?_; rintro e w5 ⟨rfl, he, hm⟩
            have hq35 : w5.cell? ⟨q, 3, none⟩ = some (.pointer (some ⟨qo4, 0, none⟩)) := hm.cell (by show ¬ c4 q = 1; rw [(HM4.out.drew).x.2.1.1]; decide) hS.1
            have hb5 : w5.cell? ⟨w3.heap.size, 8, none⟩ = some (.string m.body) := hm.cell (by show ¬ c4 w3.heap.size = 1; rw [HP4.out]; decide) hS.2
            refine hK _ _ ⟨hq35, hb5⟩ ?_
            clear hK K hS
            try simp only [List.getElem_toArray, List.getElem_cons_succ, List.getElem_cons_zero, Act.put, List.setIfInBounds_toArray, List.set_cons_zero, List.set_cons_succ]
            rw [HFU.out]
            have HM5 := Lib.hid ((HM4.out.drew).eM he hm)
            clear he hm
            obtain ⟨qp, fs5, _, hq5, hs5, hnq5, _, hsub5⟩ := HM5.out.x.sub
            have hqq : qp = qo4 := by have := hq5.symm.trans hq35; simpa using this
            subst hqq
            have HSUB := Lib.hid hsub5
            have HS5 := Lib.hid hs5
            have HNQ := Lib.hid hnq5
            clear hsub5 hs5 hq5 hnq5
            repeat (first | (refine plan_skip rfl rfl ?_; simp only [List.getElem_toArray, List.getElem_cons_succ, List.getElem_cons_zero, Act.put, List.setIfInBounds_toArray, List.set_cons_zero, List.set_cons_succ]) | (refine plan_pass2 rfl rfl ?_; simp only [List.getElem_toArray, List.getElem_cons_succ, List.getElem_cons_zero, Act.put, List.setIfInBounds_toArray, List.set_cons_zero, List.set_cons_succ]) | (refine plan_pass3 rfl rfl ?_; simp only [List.getElem_toArray, List.getElem_cons_succ, List.getElem_cons_zero, Act.put, List.setIfInBounds_toArray, List.set_cons_zero, List.set_cons_succ]) | (refine plan_take (v := ?_) rfl rfl ?_ ?_; rotate_left; (focus (intro w0; go_simp; try with_reducible rfl)); simp only [List.getElem_toArray, List.getElem_cons_succ, List.getElem_cons_zero, Act.put, List.setIfInBounds_toArray, List.set_cons_zero, List.set_cons_succ]) | (refine plan_held (v := ?_) rfl rfl ⟨hq35, hb5⟩ ?_ ?_; rotate_left; (focus (intro w0 hSw; (try dsimp only at hSw); go_split_ands; go_simp; try with_reducible rfl)); simp only [List.getElem_toArray, List.getElem_cons_succ, List.getElem_cons_zero, Act.put, List.setIfInBounds_toArray, List.set_cons_zero, List.set_cons_succ])  | (refine plan_skip1 rfl rfl ⟨hq35, hb5⟩ ?_; simp only [List.getElem_toArray, List.getElem_cons_succ, List.getElem_cons_zero, Act.put, List.setIfInBounds_toArray, List.set_cons_zero, List.set_cons_succ]))
            (refine plan_do rfl rfl fun K hK => ?_; try simp only [List.getElem_toArray, List.getElem_cons_succ, List.getElem_cons_zero])
            go_simp
            refine (RefPush_any qp fs5 X.s m.body _ HS5.out (by omega)).mono ?_; rintro e w6 ⟨rfl, hs6, hm6⟩
            have hx6 := HSUB.out w6 _ _ (fun k h => h) hs6 hm6
            have hb6 : w6.cell? ⟨w3.heap.size, 8, none⟩ = some (.string m.body) := hx6.2.cell (by show ¬ (paint c4 wA.drew w5 1) w3.heap.size = 2; rw [paint_away (HM4.out.drew).col (by decide) 1 _ HP4.out (World.block_lt_of_cell? w5 _ hb5)]; decide) hb5
            refine hK _ _ ⟨hm6.cell HNQ.out hq35, hb6⟩ ?_
            clear hK K hq35 hb5 hb6
            try simp only [List.getElem_toArray, List.getElem_cons_succ, List.getElem_cons_zero, Act.put, List.setIfInBounds_toArray, List.set_cons_zero, List.set_cons_succ]
            have HM6 := Lib.hid (HM5.out.xM hx6.1 hx6.2)
            have HN : Hid (LinkL { L with out := L.out.push m.body } { X with s := X.s.push m.body } (j + 1)) := Lib.hid ⟨by
              show RLife.abs { X with s := X.s.push m.body } = _
              have h2 := snd_push HSOK.out m.body
              rw [← HAB.out]
              unfold RLife.abs
              simp only [h2], HUP.out, by have := push_le X.s m.body; show (X.s.push m.body).l.length ≤ j + 1; omega, by show X.r.n ≤ 64 * (j + 1); omega⟩
            generalize X.s.free = fr9
            clear hs6 hm6 hx6 HSUB HS5 HNQ HM5 HM4 HFU
            repeat (first | (refine plan_skip rfl rfl ?_; simp only [List.getElem_toArray, List.getElem_cons_succ, List.getElem_cons_zero, Act.put, List.setIfInBounds_toArray, List.set_cons_zero, List.set_cons_succ]) | (refine plan_pass2 rfl rfl ?_; simp only [List.getElem_toArray, List.getElem_cons_succ, List.getElem_cons_zero, Act.put, List.setIfInBounds_toArray, List.set_cons_zero, List.set_cons_succ]) | (refine plan_pass3 rfl rfl ?_; simp only [List.getElem_toArray, List.getElem_cons_succ, List.getElem_cons_zero, Act.put, List.setIfInBounds_toArray, List.set_cons_zero, List.set_cons_succ]) | (refine plan_take (v := ?_) rfl rfl ?_ ?_; rotate_left; (focus (intro w0; go_simp; try with_reducible rfl)); simp only [List.getElem_toArray, List.getElem_cons_succ, List.getElem_cons_zero, Act.put, List.setIfInBounds_toArray, List.set_cons_zero, List.set_cons_succ]) | fail )
            refine plan_nil ?_
            have hep : ({ L with out := L.out.push m.body }).epoch = ({ X with s := X.s.push m.body }).epoch := by rw [← HN.out.abs]; rfl
            have hop : (({ L with out := L.out.push m.body }).out.bodies.length : Int) = ((({ X with s := X.s.push m.body }).s.l.length - ({ X with s := X.s.push m.body }).s.done : Nat) : Int) := by rw [← HN.out.abs]; unfold RLife.abs RefS.snd; simp
            have HEP := Lib.hid hep
            have HOP := Lib.hid hop
            obtain ⟨qo, fs, hq2, hq3, _⟩ := (HM6.out.drew).x.sub
            clear hep hop hq3
            go_wp2_with fail
            refine wp_region_plan [] [(0, 0), (2, 0), (3, 0), (4, 0), (5, 1), (1, 2), (6, 0), (7, 0), (8, 0), (10, 0), (9, 2), (11, 2), (12, 0), (13, 0)] (fun w' : World => w'.cell? ⟨q, 2, none⟩ = some (.int .u32 ({ X with s := X.s.push m.body }).epoch)) (by kernel_rfl) (by kernel_rfl) (fun d _ _ _ _ h => by cases d <;> exact h) ?_
            repeat (first | (refine plan_skip rfl rfl ?_; simp only [List.getElem_toArray, List.getElem_cons_succ, List.getElem_cons_zero, Act.put, List.setIfInBounds_toArray, List.set_cons_zero, List.set_cons_succ]) | (refine plan_pass2 rfl rfl ?_; simp only [List.getElem_toArray, List.getElem_cons_succ, List.getElem_cons_zero, Act.put, List.setIfInBounds_toArray, List.set_cons_zero, List.set_cons_succ]) | (refine plan_pass3 rfl rfl ?_; simp only [List.getElem_toArray, List.getElem_cons_succ, List.getElem_cons_zero, Act.put, List.setIfInBounds_toArray, List.set_cons_zero, List.set_cons_succ]) | (refine plan_take (v := ?_) rfl rfl ?_ ?_; rotate_left; (focus (intro w0; go_simp; try with_reducible rfl)); simp only [List.getElem_toArray, List.getElem_cons_succ, List.getElem_cons_zero, Act.put, List.setIfInBounds_toArray, List.set_cons_zero, List.set_cons_succ]) | (refine plan_held (v := ?_) rfl rfl hq2 ?_ ?_; rotate_left; (focus (intro w0 hSw; (try dsimp only at hSw); go_split_ands; go_simp; try with_reducible rfl)); simp only [List.getElem_toArray, List.getElem_cons_succ, List.getElem_cons_zero, Act.put, List.setIfInBounds_toArray, List.set_cons_zero, List.set_cons_succ])  | (refine plan_skip1 rfl rfl hq2 ?_; simp only [List.getElem_toArray, List.getElem_cons_succ, List.getElem_cons_zero, Act.put, List.setIfInBounds_toArray, List.set_cons_zero, List.set_cons_succ]))
            (refine plan_do rfl rfl fun K hK => ?_; try simp only [List.getElem_toArray, List.getElem_cons_succ, List.getElem_cons_zero])
            go_simp
            refine (EEpoch_any p _ ({ L with out := L.out.push m.body }) _ (HM6.out.drew).e).mono ?_; rintro e w' ⟨rfl, rfl⟩
            refine hK _ _ hq2 ?_
            clear hK K
            try simp only [List.getElem_toArray, List.getElem_cons_succ, List.getElem_cons_zero, Act.put, List.setIfInBounds_toArray, List.set_cons_zero, List.set_cons_succ]
            rw [HEP.out]
            repeat (first | (refine plan_skip rfl rfl ?_; simp only [List.getElem_toArray, List.getElem_cons_succ, List.getElem_cons_zero, Act.put, List.setIfInBounds_toArray, List.set_cons_zero, List.set_cons_succ]) | (refine plan_pass2 rfl rfl ?_; simp only [List.getElem_toArray, List.getElem_cons_succ, List.getElem_cons_zero, Act.put, List.setIfInBounds_toArray, List.set_cons_zero, List.set_cons_succ]) | (refine plan_pass3 rfl rfl ?_; simp only [List.getElem_toArray, List.getElem_cons_succ, List.getElem_cons_zero, Act.put, List.setIfInBounds_toArray, List.set_cons_zero, List.set_cons_succ]) | (refine plan_take (v := ?_) rfl rfl ?_ ?_; rotate_left; (focus (intro w0; go_simp; try with_reducible rfl)); simp only [List.getElem_toArray, List.getElem_cons_succ, List.getElem_cons_zero, Act.put, List.setIfInBounds_toArray, List.set_cons_zero, List.set_cons_succ]) | (refine plan_held (v := ?_) rfl rfl hq2 ?_ ?_; rotate_left; (focus (intro w0 hSw; (try dsimp only at hSw); go_split_ands; go_simp; try with_reducible rfl)); simp only [List.getElem_toArray, List.getElem_cons_succ, List.getElem_cons_zero, Act.put, List.setIfInBounds_toArray, List.set_cons_zero, List.set_cons_succ])  | (refine plan_skip1 rfl rfl hq2 ?_; simp only [List.getElem_toArray, List.getElem_cons_succ, List.getElem_cons_zero, Act.put, List.setIfInBounds_toArray, List.set_cons_zero, List.set_cons_succ]))
            (refine plan_do rfl rfl fun K hK => ?_; try simp only [List.getElem_toArray, List.getElem_cons_succ, List.getElem_cons_zero])
            go_simp
            refine (EOpen_any p _ ({ L with out := L.out.push m.body }) _ (HM6.out.drew).e).mono ?_; rintro e w' ⟨rfl, rfl⟩
            refine hK _ _ hq2 ?_
            clear hK K
            try simp only [List.getElem_toArray, List.getElem_cons_succ, List.getElem_cons_zero, Act.put, List.setIfInBounds_toArray, List.set_cons_zero, List.set_cons_succ]
            rw [HOP.out]
            repeat (first | (refine plan_skip rfl rfl ?_; simp only [List.getElem_toArray, List.getElem_cons_succ, List.getElem_cons_zero, Act.put, List.setIfInBounds_toArray, List.set_cons_zero, List.set_cons_succ]) | (refine plan_pass2 rfl rfl ?_; simp only [List.getElem_toArray, List.getElem_cons_succ, List.getElem_cons_zero, Act.put, List.setIfInBounds_toArray, List.set_cons_zero, List.set_cons_succ]) | (refine plan_pass3 rfl rfl ?_; simp only [List.getElem_toArray, List.getElem_cons_succ, List.getElem_cons_zero, Act.put, List.setIfInBounds_toArray, List.set_cons_zero, List.set_cons_succ]) | (refine plan_take (v := ?_) rfl rfl ?_ ?_; rotate_left; (focus (intro w0; go_simp; try with_reducible rfl)); simp only [List.getElem_toArray, List.getElem_cons_succ, List.getElem_cons_zero, Act.put, List.setIfInBounds_toArray, List.set_cons_zero, List.set_cons_succ]) | (refine plan_held (v := ?_) rfl rfl hq2 ?_ ?_; rotate_left; (focus (intro w0 hSw; (try dsimp only at hSw); go_split_ands; go_simp; try with_reducible rfl)); simp only [List.getElem_toArray, List.getElem_cons_succ, List.getElem_cons_zero, Act.put, List.setIfInBounds_toArray, List.set_cons_zero, List.set_cons_succ])  | (refine plan_skip1 rfl rfl hq2 ?_; simp only [List.getElem_toArray, List.getElem_cons_succ, List.getElem_cons_zero, Act.put, List.setIfInBounds_toArray, List.set_cons_zero, List.set_cons_succ]))
            (refine plan_do rfl rfl fun K hK => ?_; try simp only [List.getElem_toArray, List.getElem_cons_succ, List.getElem_cons_zero])
            go_simp
            refine (ROpen_any q _ ({ X with s := X.s.push m.body }) _ (HM6.out.drew).x).mono ?_; rintro e wz ⟨rfl, hm⟩
            refine hK _ _ (hm.cell (fun f => f) hq2) ?_
            clear hK K hq2
            try simp only [List.getElem_toArray, List.getElem_cons_succ, List.getElem_cons_zero, Act.put, List.setIfInBounds_toArray, List.set_cons_zero, List.set_cons_succ]
            have HMz := Lib.hid ((HM6.out.drew).still hm 11)
            clear hm
            repeat (first | (refine plan_skip rfl rfl ?_; simp only [List.getElem_toArray, List.getElem_cons_succ, List.getElem_cons_zero, Act.put, List.setIfInBounds_toArray, List.set_cons_zero, List.set_cons_succ]) | (refine plan_pass2 rfl rfl ?_; simp only [List.getElem_toArray, List.getElem_cons_succ, List.getElem_cons_zero, Act.put, List.setIfInBounds_toArray, List.set_cons_zero, List.set_cons_succ]) | (refine plan_pass3 rfl rfl ?_; simp only [List.getElem_toArray, List.getElem_cons_succ, List.getElem_cons_zero, Act.put, List.setIfInBounds_toArray, List.set_cons_zero, List.set_cons_succ]) | (refine plan_take (v := ?_) rfl rfl ?_ ?_; rotate_left; (focus (intro w0; go_simp; try with_reducible rfl)); simp only [List.getElem_toArray, List.getElem_cons_succ, List.getElem_cons_zero, Act.put, List.setIfInBounds_toArray, List.set_cons_zero, List.set_cons_succ]) | fail )
            refine plan_nil ?_
            go_wp2
            go_roundw
            case rel => exact ⟨j + 1, _, _, _, by omega, by omega, by go_num, HMz.out, HN.out⟩
            case measure => simp [intOf]; omega
        · as_aux_lemma =>
            obtain ⟨wA, hwA⟩ : ∃ wA, wA = (w3.alloc (.cells #[.int .i64 1, .int .i64 zn, .int .i64 m.node, .bool m.up, .int .u32 m.epoch, .int .i64 m.kind, .int .u32 m.ack, .int .u32 m.seq, .string m.body] 67)) := ⟨_, rfl⟩
            have hbA : wA.heap[w3.heap.size]? = _ := hwA ▸ allocNew w3 _
            obtain ⟨c4, hM4, hcp⟩ : ∃ c4, LinkM w wA p q c4 L X ∧ c4 w3.heap.size = 9 := ⟨_, HM3.out.still (hwA ▸ (Mod.refl _ _).alloc _) 9, paint_born _ w3 wA 9 _ (Nat.le_refl _) (by rw [hwA]; simp)⟩
            have HM4 := Lib.hid hM4
            have HB4 := Lib.hid hbA
            have HP4 := Lib.hid hcp
            have hok : X.s.Ok := by obtain ⟨_, _, _, _, h, _⟩ := hM4.x.sub; exact h.1
            have HSOK := Lib.hid hok
            have HAB := Lib.hid HL.out.abs
            have HUP := Lib.hid HL.out.up
            clear hM4 hbA hcp hok HM3
            go_wp2_with fail
            obtain ⟨qo4, fs4, _, hq34, _⟩ := (HM4.out.drew).x.sub
            rw [← hwA]
            have hS := hq34
            have HEQ : Hid (L.out.news.map L.body = X.s.news.map X.body ∧ L.out.news.length = X.s.news.length) := Lib.hid (by
              have h2 := snd_news HSOK.out
              rw [← HAB.out]
              show (X.s.snd.news.map X.abs.body = _) ∧ X.s.snd.news.length = _
              rw [h2]
              exact ⟨rfl, rfl⟩)
            clear hwA hq34
            refine wp_region_plan [7] [(0, 0), (2, 0), (3, 0), (4, 0), (5, 0), (6, 1), (1, 2), (7, 3), (8, 2), (9, 2), (10, 0)] (fun w' : World => w'.cell? ⟨q, 3, none⟩ = some (.pointer (some ⟨qo4, 0, none⟩))) (by kernel_rfl) (by kernel_rfl) (fun d _ _ _ _ h => by cases d <;> exact h) ?_
            repeat (first | (refine plan_skip rfl rfl ?_; simp only [List.getElem_toArray, List.getElem_cons_succ, List.getElem_cons_zero, Act.put, List.setIfInBounds_toArray, List.set_cons_zero, List.set_cons_succ]) | (refine plan_pass2 rfl rfl ?_; simp only [List.getElem_toArray, List.getElem_cons_succ, List.getElem_cons_zero, Act.put, List.setIfInBounds_toArray, List.set_cons_zero, List.set_cons_succ]) | (refine plan_pass3 rfl rfl ?_; simp only [List.getElem_toArray, List.getElem_cons_succ, List.getElem_cons_zero, Act.put, List.setIfInBounds_toArray, List.set_cons_zero, List.set_cons_succ]) | (refine plan_take (v := ?_) rfl rfl ?_ ?_; rotate_left; (focus (intro w0; go_simp; try with_reducible rfl)); simp only [List.getElem_toArray, List.getElem_cons_succ, List.getElem_cons_zero, Act.put, List.setIfInBounds_toArray, List.set_cons_zero, List.set_cons_succ]) | (refine plan_held (v := ?_) rfl rfl hS ?_ ?_; rotate_left; (focus (intro w0 hSw; (try dsimp only at hSw); go_split_ands; go_simp; try with_reducible rfl)); simp only [List.getElem_toArray, List.getElem_cons_succ, List.getElem_cons_zero, Act.put, List.setIfInBounds_toArray, List.set_cons_zero, List.set_cons_succ])  | (refine plan_skip1 rfl rfl hS ?_; simp only [List.getElem_toArray, List.getElem_cons_succ, List.getElem_cons_zero, Act.put, List.setIfInBounds_toArray, List.set_cons_zero, List.set_cons_succ]))
            (refine plan_do rfl rfl fun K hK => ?_; try simp only [List.getElem_toArray, List.getElem_cons_succ, List.getElem_cons_zero])
            go_simp
            refine (ESend_any p _ L _ (HM4.out.drew).e).mono ?_; rintro e w5 ⟨v1, rfl, hv1, he, hm⟩
            rw [HEQ.out.1, HEQ.out.2] at hv1
            have hq35 : w5.cell? ⟨q, 3, none⟩ = some (.pointer (some ⟨qo4, 0, none⟩)) := hm.cell (by show ¬ c4 q = 1; rw [(HM4.out.drew).x.2.1.1]; decide) hS
            refine hK _ _ hq35 ?_
            clear hK K hS
            try simp only [List.getElem_toArray, List.getElem_cons_succ, List.getElem_cons_zero, Act.put, List.setIfInBounds_toArray, List.set_cons_zero, List.set_cons_succ]
            obtain ⟨c5, hM5, hV1⟩ : ∃ c5, LinkM w w5 p q c5 _ X ∧ Row w5 (fun k => c5 k = 7) 65 7 v1 X.s.news.length (MsgV.vals (X.s.news.map X.body)) := ⟨_, (HM4.out.drew).eS he hm 7, hv1.monoLt (paint_born c4 _ w5 7)⟩
            have HM5 := Lib.hid hM5
            have HV1 := Lib.hid hV1
            clear he hm hv1 hM5 hV1
            obtain ⟨qp, fs5, _, hq5, hs5, hnq5, _, hsub5⟩ := HM5.out.x.sub
            have hqq : qp = qo4 := by have := hq5.symm.trans hq35; simpa using this
            subst hqq
            have HSUB := Lib.hid hsub5
            have HS5 := Lib.hid hs5
            have HNQ := Lib.hid hnq5
            clear hsub5 hs5 hq5 hnq5
            repeat (first | (refine plan_skip rfl rfl ?_; simp only [List.getElem_toArray, List.getElem_cons_succ, List.getElem_cons_zero, Act.put, List.setIfInBounds_toArray, List.set_cons_zero, List.set_cons_succ]) | (refine plan_pass2 rfl rfl ?_; simp only [List.getElem_toArray, List.getElem_cons_succ, List.getElem_cons_zero, Act.put, List.setIfInBounds_toArray, List.set_cons_zero, List.set_cons_succ]) | (refine plan_pass3 rfl rfl ?_; simp only [List.getElem_toArray, List.getElem_cons_succ, List.getElem_cons_zero, Act.put, List.setIfInBounds_toArray, List.set_cons_zero, List.set_cons_succ]) | (refine plan_take (v := ?_) rfl rfl ?_ ?_; rotate_left; (focus (intro w0; go_simp; try with_reducible rfl)); simp only [List.getElem_toArray, List.getElem_cons_succ, List.getElem_cons_zero, Act.put, List.setIfInBounds_toArray, List.set_cons_zero, List.set_cons_succ]) | (refine plan_held (v := ?_) rfl rfl hq35 ?_ ?_; rotate_left; (focus (intro w0 hSw; (try dsimp only at hSw); go_split_ands; go_simp; try with_reducible rfl)); simp only [List.getElem_toArray, List.getElem_cons_succ, List.getElem_cons_zero, Act.put, List.setIfInBounds_toArray, List.set_cons_zero, List.set_cons_succ])  | (refine plan_skip1 rfl rfl hq35 ?_; simp only [List.getElem_toArray, List.getElem_cons_succ, List.getElem_cons_zero, Act.put, List.setIfInBounds_toArray, List.set_cons_zero, List.set_cons_succ]))
            (refine plan_end rfl rfl rfl fun K hK => ?_; (try simp only [List.getElem_toArray, List.getElem_cons_succ, List.getElem_cons_zero]))
            go_simp
            refine (RefSend_any qp fs5 X.s _ HS5.out).mono ?_; rintro e w6 ⟨v2, rfl, hv2, hs6, hm6⟩
            have hx6 := HSUB.out w6 _ _ (fun k h => .inl h) hs6 hm6
            have hq36 : w6.cell? ⟨q, 3, none⟩ = some (.pointer (some ⟨qp, 0, none⟩)) := hm6.cell HNQ.out hq35
            refine hK _ _ ?_
            clear hK K hq35
            try simp only [List.getElem_toArray, List.getElem_cons_succ, List.getElem_cons_zero, Act.put, List.setIfInBounds_toArray, List.set_cons_zero, List.set_cons_succ]
            obtain ⟨c6, hM6, hV1⟩ : ∃ c6, LinkM w w6 p q c6 _ { X with s := X.s.send } ∧ Row w6 (fun k => c6 k = 7) 65 7 v1 X.s.news.length (MsgV.vals (X.s.news.map X.body)) := ⟨_, HM5.out.xM hx6.1 hx6.2, HV1.out.away HM5.out.col hx6.2 (by decide) (by decide) 2⟩
            have HM6 := Lib.hid hM6
            have HV16 := Lib.hid hV1
            have HV2 := Lib.hid hv2.reads
            have hnl2 : X.s.news.length ≤ 64 := by have := HSOK.out.s2; have := HSOK.out.w1; have := HSOK.out.s1; simp [RefS.news, RefS.pkts, RefS.bound]; omega
            clear hx6 hs6 hm6 hv2 hM6 hV1 HM5 HV1 HSUB HS5 HNQ
            repeat (first | (refine plan_skip rfl rfl ?_; simp only [List.getElem_toArray, List.getElem_cons_succ, List.getElem_cons_zero, Act.put, List.setIfInBounds_toArray, List.set_cons_zero, List.set_cons_succ]) | (refine plan_pass2 rfl rfl ?_; simp only [List.getElem_toArray, List.getElem_cons_succ, List.getElem_cons_zero, Act.put, List.setIfInBounds_toArray, List.set_cons_zero, List.set_cons_succ]) | (refine plan_pass3 rfl rfl ?_; simp only [List.getElem_toArray, List.getElem_cons_succ, List.getElem_cons_zero, Act.put, List.setIfInBounds_toArray, List.set_cons_zero, List.set_cons_succ]) | (refine plan_take (v := ?_) rfl rfl ?_ ?_; rotate_left; (focus (intro w0; go_simp; try with_reducible rfl)); simp only [List.getElem_toArray, List.getElem_cons_succ, List.getElem_cons_zero, Act.put, List.setIfInBounds_toArray, List.set_cons_zero, List.set_cons_succ]) | (refine plan_held (v := ?_) rfl rfl hq36 ?_ ?_; rotate_left; (focus (intro w0 hSw; (try dsimp only at hSw); go_split_ands; go_simp; try with_reducible rfl)); simp only [List.getElem_toArray, List.getElem_cons_succ, List.getElem_cons_zero, Act.put, List.setIfInBounds_toArray, List.set_cons_zero, List.set_cons_succ])  | (refine plan_skip1 rfl rfl hq36 ?_; simp only [List.getElem_toArray, List.getElem_cons_succ, List.getElem_cons_zero, Act.put, List.setIfInBounds_toArray, List.set_cons_zero, List.set_cons_succ]))
            (refine plan_do rfl rfl fun K hK => ?_; try simp only [List.getElem_toArray, List.getElem_cons_succ, List.getElem_cons_zero])
            go_simp
            refine (RBodies_any q _ { X with s := X.s.send } v2 X.s.news _ HM6.out.x HV2.out (by omega)).mono ?_; rintro e w7 ⟨v3, rfl, hv3, hm7⟩
            have hq37 : w7.cell? ⟨q, 3, none⟩ = some (.pointer (some ⟨qp, 0, none⟩)) := hm7.cell (fun f => f) hq36
            refine hK _ _ hq37 ?_
            clear hK K hq36
            try simp only [List.getElem_toArray, List.getElem_cons_succ, List.getElem_cons_zero, Act.put, List.setIfInBounds_toArray, List.set_cons_zero, List.set_cons_succ]
            have HM7 := Lib.hid (HM6.out.still hm7 8)
            have HV17 := Lib.hid (HV16.out.keep hm7 fun _ _ f => f)
            have HV3 := Lib.hid hv3
            clear hm7 hv3 HM6 HV16 HV2
            repeat (first | (refine plan_skip rfl rfl ?_; simp only [List.getElem_toArray, List.getElem_cons_succ, List.getElem_cons_zero, Act.put, List.setIfInBounds_toArray, List.set_cons_zero, List.set_cons_succ]) | (refine plan_pass2 rfl rfl ?_; simp only [List.getElem_toArray, List.getElem_cons_succ, List.getElem_cons_zero, Act.put, List.setIfInBounds_toArray, List.set_cons_zero, List.set_cons_succ]) | (refine plan_pass3 rfl rfl ?_; simp only [List.getElem_toArray, List.getElem_cons_succ, List.getElem_cons_zero, Act.put, List.setIfInBounds_toArray, List.set_cons_zero, List.set_cons_succ]) | (refine plan_take (v := ?_) rfl rfl ?_ ?_; rotate_left; (focus (intro w0; go_simp; try with_reducible rfl)); simp only [List.getElem_toArray, List.getElem_cons_succ, List.getElem_cons_zero, Act.put, List.setIfInBounds_toArray, List.set_cons_zero, List.set_cons_succ]) | (refine plan_held (v := ?_) rfl rfl hq37 ?_ ?_; rotate_left; (focus (intro w0 hSw; (try dsimp only at hSw); go_split_ands; go_simp; try with_reducible rfl)); simp only [List.getElem_toArray, List.getElem_cons_succ, List.getElem_cons_zero, Act.put, List.setIfInBounds_toArray, List.set_cons_zero, List.set_cons_succ])  | (refine plan_skip1 rfl rfl hq37 ?_; simp only [List.getElem_toArray, List.getElem_cons_succ, List.getElem_cons_zero, Act.put, List.setIfInBounds_toArray, List.set_cons_zero, List.set_cons_succ]))
            (refine plan_do rfl rfl fun K hK => ?_; try simp only [List.getElem_toArray, List.getElem_cons_succ, List.getElem_cons_zero])
            go_simp
            refine (SameMsg_any v1 v3 X.s.news.length (X.s.news.map X.body) _ (by simp) HV17.out.reads HV3.out.reads).mono ?_; rintro e w8 ⟨rfl, hm8⟩
            refine hK _ _ (hm8.cell (fun f => f) hq37) ?_
            clear hK K hq37
            try simp only [List.getElem_toArray, List.getElem_cons_succ, List.getElem_cons_zero, Act.put, List.setIfInBounds_toArray, List.set_cons_zero, List.set_cons_succ]
            have HM8 := Lib.hid (HM7.out.still hm8 9)
            have HN : Hid (LinkL { L with out := L.out.send } { X with s := X.s.send } (j + 1)) := Lib.hid ⟨by
              show RLife.abs { X with s := X.s.send } = _
              have h2 := snd_send HSOK.out
              rw [← HAB.out]
              unfold RLife.abs
              simp only [h2], HUP.out, by show X.s.l.length ≤ j + 1; omega, by show X.r.n ≤ 64 * (j + 1); omega⟩
            clear hm8 HM7 HV17 HV3 HM4 HEQ
            repeat (first | (refine plan_skip rfl rfl ?_; simp only [List.getElem_toArray, List.getElem_cons_succ, List.getElem_cons_zero, Act.put, List.setIfInBounds_toArray, List.set_cons_zero, List.set_cons_succ]) | (refine plan_pass2 rfl rfl ?_; simp only [List.getElem_toArray, List.getElem_cons_succ, List.getElem_cons_zero, Act.put, List.setIfInBounds_toArray, List.set_cons_zero, List.set_cons_succ]) | (refine plan_pass3 rfl rfl ?_; simp only [List.getElem_toArray, List.getElem_cons_succ, List.getElem_cons_zero, Act.put, List.setIfInBounds_toArray, List.set_cons_zero, List.set_cons_succ]) | (refine plan_take (v := ?_) rfl rfl ?_ ?_; rotate_left; (focus (intro w0; go_simp; try with_reducible rfl)); simp only [List.getElem_toArray, List.getElem_cons_succ, List.getElem_cons_zero, Act.put, List.setIfInBounds_toArray, List.set_cons_zero, List.set_cons_succ]) | fail )
            refine plan_nil ?_
            have hep : ({ L with out := L.out.send }).epoch = ({ X with s := X.s.send }).epoch := by rw [← HN.out.abs]; rfl
            have hop : (({ L with out := L.out.send }).out.bodies.length : Int) = ((({ X with s := X.s.send }).s.l.length - ({ X with s := X.s.send }).s.done : Nat) : Int) := by rw [← HN.out.abs]; unfold RLife.abs RefS.snd; simp
            have HEP := Lib.hid hep
            have HOP := Lib.hid hop
            obtain ⟨qo, fs, hq2, hq3, _⟩ := (HM8.out.drew).x.sub
            clear hep hop hq3
            go_wp2_with fail
            refine wp_region_plan [] [(0, 0), (2, 0), (3, 0), (4, 0), (5, 1), (1, 2), (6, 0), (7, 0), (8, 0), (10, 0), (9, 2), (11, 2), (12, 0), (13, 0)] (fun w' : World => w'.cell? ⟨q, 2, none⟩ = some (.int .u32 ({ X with s := X.s.send }).epoch)) (by kernel_rfl) (by kernel_rfl) (fun d _ _ _ _ h => by cases d <;> exact h) ?_
            repeat (first | (refine plan_skip rfl rfl ?_; simp only [List.getElem_toArray, List.getElem_cons_succ, List.getElem_cons_zero, Act.put, List.setIfInBounds_toArray, List.set_cons_zero, List.set_cons_succ]) | (refine plan_pass2 rfl rfl ?_; simp only [List.getElem_toArray, List.getElem_cons_succ, List.getElem_cons_zero, Act.put, List.setIfInBounds_toArray, List.set_cons_zero, List.set_cons_succ]) | (refine plan_pass3 rfl rfl ?_; simp only [List.getElem_toArray, List.getElem_cons_succ, List.getElem_cons_zero, Act.put, List.setIfInBounds_toArray, List.set_cons_zero, List.set_cons_succ]) | (refine plan_take (v := ?_) rfl rfl ?_ ?_; rotate_left; (focus (intro w0; go_simp; try with_reducible rfl)); simp only [List.getElem_toArray, List.getElem_cons_succ, List.getElem_cons_zero, Act.put, List.setIfInBounds_toArray, List.set_cons_zero, List.set_cons_succ]) | (refine plan_held (v := ?_) rfl rfl hq2 ?_ ?_; rotate_left; (focus (intro w0 hSw; (try dsimp only at hSw); go_split_ands; go_simp; try with_reducible rfl)); simp only [List.getElem_toArray, List.getElem_cons_succ, List.getElem_cons_zero, Act.put, List.setIfInBounds_toArray, List.set_cons_zero, List.set_cons_succ])  | (refine plan_skip1 rfl rfl hq2 ?_; simp only [List.getElem_toArray, List.getElem_cons_succ, List.getElem_cons_zero, Act.put, List.setIfInBounds_toArray, List.set_cons_zero, List.set_cons_succ]))
            (refine plan_do rfl rfl fun K hK => ?_; try simp only [List.getElem_toArray, List.getElem_cons_succ, List.getElem_cons_zero])
            go_simp
            refine (EEpoch_any p _ ({ L with out := L.out.send }) _ (HM8.out.drew).e).mono ?_; rintro e w' ⟨rfl, rfl⟩
            refine hK _ _ hq2 ?_
            clear hK K
            try simp only [List.getElem_toArray, List.getElem_cons_succ, List.getElem_cons_zero, Act.put, List.setIfInBounds_toArray, List.set_cons_zero, List.set_cons_succ]
            rw [HEP.out]
            repeat (first | (refine plan_skip rfl rfl ?_; simp only [List.getElem_toArray, List.getElem_cons_succ, List.getElem_cons_zero, Act.put, List.setIfInBounds_toArray, List.set_cons_zero, List.set_cons_succ]) | (refine plan_pass2 rfl rfl ?_; simp only [List.getElem_toArray, List.getElem_cons_succ, List.getElem_cons_zero, Act.put, List.setIfInBounds_toArray, List.set_cons_zero, List.set_cons_succ]) | (refine plan_pass3 rfl rfl ?_; simp only [List.getElem_toArray, List.getElem_cons_succ, List.getElem_cons_zero, Act.put, List.setIfInBounds_toArray, List.set_cons_zero, List.set_cons_succ]) | (refine plan_take (v := ?_) rfl rfl ?_ ?_; rotate_left; (focus (intro w0; go_simp; try with_reducible rfl)); simp only [List.getElem_toArray, List.getElem_cons_succ, List.getElem_cons_zero, Act.put, List.setIfInBounds_toArray, List.set_cons_zero, List.set_cons_succ]) | (refine plan_held (v := ?_) rfl rfl hq2 ?_ ?_; rotate_left; (focus (intro w0 hSw; (try dsimp only at hSw); go_split_ands; go_simp; try with_reducible rfl)); simp only [List.getElem_toArray, List.getElem_cons_succ, List.getElem_cons_zero, Act.put, List.setIfInBounds_toArray, List.set_cons_zero, List.set_cons_succ])  | (refine plan_skip1 rfl rfl hq2 ?_; simp only [List.getElem_toArray, List.getElem_cons_succ, List.getElem_cons_zero, Act.put, List.setIfInBounds_toArray, List.set_cons_zero, List.set_cons_succ]))
            (refine plan_do rfl rfl fun K hK => ?_; try simp only [List.getElem_toArray, List.getElem_cons_succ, List.getElem_cons_zero])
            go_simp
            refine (EOpen_any p _ ({ L with out := L.out.send }) _ (HM8.out.drew).e).mono ?_; rintro e w' ⟨rfl, rfl⟩
            refine hK _ _ hq2 ?_
            clear hK K
            try simp only [List.getElem_toArray, List.getElem_cons_succ, List.getElem_cons_zero, Act.put, List.setIfInBounds_toArray, List.set_cons_zero, List.set_cons_succ]
            rw [HOP.out]
            repeat (first | (refine plan_skip rfl rfl ?_; simp only [List.getElem_toArray, List.getElem_cons_succ, List.getElem_cons_zero, Act.put, List.setIfInBounds_toArray, List.set_cons_zero, List.set_cons_succ]) | (refine plan_pass2 rfl rfl ?_; simp only [List.getElem_toArray, List.getElem_cons_succ, List.getElem_cons_zero, Act.put, List.setIfInBounds_toArray, List.set_cons_zero, List.set_cons_succ]) | (refine plan_pass3 rfl rfl ?_; simp only [List.getElem_toArray, List.getElem_cons_succ, List.getElem_cons_zero, Act.put, List.setIfInBounds_toArray, List.set_cons_zero, List.set_cons_succ]) | (refine plan_take (v := ?_) rfl rfl ?_ ?_; rotate_left; (focus (intro w0; go_simp; try with_reducible rfl)); simp only [List.getElem_toArray, List.getElem_cons_succ, List.getElem_cons_zero, Act.put, List.setIfInBounds_toArray, List.set_cons_zero, List.set_cons_succ]) | (refine plan_held (v := ?_) rfl rfl hq2 ?_ ?_; rotate_left; (focus (intro w0 hSw; (try dsimp only at hSw); go_split_ands; go_simp; try with_reducible rfl)); simp only [List.getElem_toArray, List.getElem_cons_succ, List.getElem_cons_zero, Act.put, List.setIfInBounds_toArray, List.set_cons_zero, List.set_cons_succ])  | (refine plan_skip1 rfl rfl hq2 ?_; simp only [List.getElem_toArray, List.getElem_cons_succ, List.getElem_cons_zero, Act.put, List.setIfInBounds_toArray, List.set_cons_zero, List.set_cons_succ]))
            (refine plan_do rfl rfl fun K hK => ?_; try simp only [List.getElem_toArray, List.getElem_cons_succ, List.getElem_cons_zero])
            go_simp
            refine (ROpen_any q _ ({ X with s := X.s.send }) _ (HM8.out.drew).x).mono ?_; rintro e wz ⟨rfl, hm⟩
            refine hK _ _ (hm.cell (fun f => f) hq2) ?_
            clear hK K hq2
            try simp only [List.getElem_toArray, List.getElem_cons_succ, List.getElem_cons_zero, Act.put, List.setIfInBounds_toArray, List.set_cons_zero, List.set_cons_succ]
            have HMz := Lib.hid ((HM8.out.drew).still hm 11)
            clear hm
            repeat (first | (refine plan_skip rfl rfl ?_; simp only [List.getElem_toArray, List.getElem_cons_succ, List.getElem_cons_zero, Act.put, List.setIfInBounds_toArray, List.set_cons_zero, List.set_cons_succ]) | (refine plan_pass2 rfl rfl ?_; simp only [List.getElem_toArray, List.getElem_cons_succ, List.getElem_cons_zero, Act.put, List.setIfInBounds_toArray, List.set_cons_zero, List.set_cons_succ]) | (refine plan_pass3 rfl rfl ?_; simp only [List.getElem_toArray, List.getElem_cons_succ, List.getElem_cons_zero, Act.put, List.setIfInBounds_toArray, List.set_cons_zero, List.set_cons_succ]) | (refine plan_take (v := ?_) rfl rfl ?_ ?_; rotate_left; (focus (intro w0; go_simp; try with_reducible rfl)); simp only [List.getElem_toArray, List.getElem_cons_succ, List.getElem_cons_zero, Act.put, List.setIfInBounds_toArray, List.set_cons_zero, List.set_cons_succ]) | fail )
            refine plan_nil ?_
            go_wp2
            go_roundw
            case rel => exact ⟨j + 1, _, _, _, by omega, by omega, by go_num, HMz.out, HN.out⟩
            case measure => simp [intOf]; omega
        · as_aux_lemma =>
            obtain ⟨wA, hwA⟩ : ∃ wA, wA = (w3.alloc (.cells #[.int .i64 2, .int .i64 zn, .int .i64 m.node, .bool m.up, .int .u32 m.epoch, .int .i64 m.kind, .int .u32 m.ack, .int .u32 m.seq, .string m.body] 67)) := ⟨_, rfl⟩
            have hbA : wA.heap[w3.heap.size]? = _ := hwA ▸ allocNew w3 _
            obtain ⟨c4, hM4, hcp⟩ : ∃ c4, LinkM w wA p q c4 L X ∧ c4 w3.heap.size = 9 := ⟨_, HM3.out.still (hwA ▸ (Mod.refl _ _).alloc _) 9, paint_born _ w3 wA 9 _ (Nat.le_refl _) (by rw [hwA]; simp)⟩
            have HM4 := Lib.hid hM4
            have HB4 := Lib.hid hbA
            have HP4 := Lib.hid hcp
            have hok : X.s.Ok := by obtain ⟨_, _, _, _, h, _⟩ := hM4.x.sub; exact h.1
            have HSOK := Lib.hid hok
            have HAB := Lib.hid HL.out.abs
            have HUP := Lib.hid HL.out.up
            clear hM4 hbA hcp hok HM3
            go_wp2_with fail
            obtain ⟨qo4, fs4, _, hq34, _⟩ := (HM4.out.drew).x.sub
            rw [← hwA]
            have hS := hq34
            obtain ⟨ms, hms⟩ : ∃ ms : List MsgV, ms = X.msg 1 :: X.s.again.map X.body := ⟨_, rfl⟩
            have HEQ : Hid (L.beat = ms ∧ L.beat.length = ms.length ∧ ms.length = 1 + X.s.again.length) := Lib.hid (by
              have h2 : L.beat = ms := by
                rw [hms, ← HAB.out]
                unfold Life.beat
                show X.abs.msg 1 :: X.s.snd.again.map X.abs.body = _
                rw [snd_again]
                rfl
              exact ⟨h2, by rw [h2], by rw [hms]; simp; omega⟩)
            have HMS := Lib.hid hms
            clear hwA hq34 hms
            refine wp_region_plan [9] [(0, 0), (2, 0), (4, 0), (5, 0), (6, 0), (7, 0), (8, 1), (1, 2), (3, 2), (9, 3), (10, 2), (11, 2), (12, 2), (13, 0)] (fun w' : World => w'.cell? ⟨q, 3, none⟩ = some (.pointer (some ⟨qo4, 0, none⟩))) (by kernel_rfl) (by kernel_rfl) (fun d _ _ _ _ h => by cases d <;> exact h) ?_
            repeat (first | (refine plan_skip rfl rfl ?_; simp only [List.getElem_toArray, List.getElem_cons_succ, List.getElem_cons_zero, Act.put, List.setIfInBounds_toArray, List.set_cons_zero, List.set_cons_succ]) | (refine plan_pass2 rfl rfl ?_; simp only [List.getElem_toArray, List.getElem_cons_succ, List.getElem_cons_zero, Act.put, List.setIfInBounds_toArray, List.set_cons_zero, List.set_cons_succ]) | (refine plan_pass3 rfl rfl ?_; simp only [List.getElem_toArray, List.getElem_cons_succ, List.getElem_cons_zero, Act.put, List.setIfInBounds_toArray, List.set_cons_zero, List.set_cons_succ]) | (refine plan_take (v := ?_) rfl rfl ?_ ?_; rotate_left; (focus (intro w0; go_simp; try with_reducible rfl)); simp only [List.getElem_toArray, List.getElem_cons_succ, List.getElem_cons_zero, Act.put, List.setIfInBounds_toArray, List.set_cons_zero, List.set_cons_succ]) | (refine plan_held (v := ?_) rfl rfl hS ?_ ?_; rotate_left; (focus (intro w0 hSw; (try dsimp only at hSw); go_split_ands; go_simp; try with_reducible rfl)); simp only [List.getElem_toArray, List.getElem_cons_succ, List.getElem_cons_zero, Act.put, List.setIfInBounds_toArray, List.set_cons_zero, List.set_cons_succ])  | (refine plan_skip1 rfl rfl hS ?_; simp only [List.getElem_toArray, List.getElem_cons_succ, List.getElem_cons_zero, Act.put, List.setIfInBounds_toArray, List.set_cons_zero, List.set_cons_succ]))
            (refine plan_do rfl rfl fun K hK => ?_; try simp only [List.getElem_toArray, List.getElem_cons_succ, List.getElem_cons_zero])
            go_simp
            refine (EBeat_any p _ L _ (HM4.out.drew).e).mono ?_; rintro e w5 ⟨v1, rfl, hv1, hm⟩
            rw [HEQ.out.2.1, HEQ.out.1] at hv1
            have hq35 : w5.cell? ⟨q, 3, none⟩ = some (.pointer (some ⟨qo4, 0, none⟩)) := hm.cell (fun f => f) hS
            refine hK _ _ hq35 ?_
            clear hK K hS
            try simp only [List.getElem_toArray, List.getElem_cons_succ, List.getElem_cons_zero, Act.put, List.setIfInBounds_toArray, List.set_cons_zero, List.set_cons_succ]
            obtain ⟨c5, hM5, hV1⟩ : ∃ c5, LinkM w w5 p q c5 L X ∧ Row w5 (fun k => c5 k = 7) 65 7 v1 ms.length (MsgV.vals ms) := ⟨_, (HM4.out.drew).still hm 7, hv1.monoLt (paint_born c4 _ w5 7)⟩
            have HM5 := Lib.hid hM5
            have HV1 := Lib.hid hV1
            clear hm hv1 hM5 hV1
            repeat (first | (refine plan_skip rfl rfl ?_; simp only [List.getElem_toArray, List.getElem_cons_succ, List.getElem_cons_zero, Act.put, List.setIfInBounds_toArray, List.set_cons_zero, List.set_cons_succ]) | (refine plan_pass2 rfl rfl ?_; simp only [List.getElem_toArray, List.getElem_cons_succ, List.getElem_cons_zero, Act.put, List.setIfInBounds_toArray, List.set_cons_zero, List.set_cons_succ]) | (refine plan_pass3 rfl rfl ?_; simp only [List.getElem_toArray, List.getElem_cons_succ, List.getElem_cons_zero, Act.put, List.setIfInBounds_toArray, List.set_cons_zero, List.set_cons_succ]) | (refine plan_take (v := ?_) rfl rfl ?_ ?_; rotate_left; (focus (intro w0; go_simp; try with_reducible rfl)); simp only [List.getElem_toArray, List.getElem_cons_succ, List.getElem_cons_zero, Act.put, List.setIfInBounds_toArray, List.set_cons_zero, List.set_cons_succ]) | (refine plan_held (v := ?_) rfl rfl hq35 ?_ ?_; rotate_left; (focus (intro w0 hSw; (try dsimp only at hSw); go_split_ands; go_simp; try with_reducible rfl)); simp only [List.getElem_toArray, List.getElem_cons_succ, List.getElem_cons_zero, Act.put, List.setIfInBounds_toArray, List.set_cons_zero, List.set_cons_succ])  | (refine plan_skip1 rfl rfl hq35 ?_; simp only [List.getElem_toArray, List.getElem_cons_succ, List.getElem_cons_zero, Act.put, List.setIfInBounds_toArray, List.set_cons_zero, List.set_cons_succ]))
            (refine plan_do rfl rfl fun K hK => ?_; try simp only [List.getElem_toArray, List.getElem_cons_succ, List.getElem_cons_zero])
            go_simp
            refine (RHello_any q _ X _ HM5.out.x).mono ?_; rintro e w6 ⟨v2, rfl, hv2, hm⟩
            have hq36 : w6.cell? ⟨q, 3, none⟩ = some (.pointer (some ⟨qo4, 0, none⟩)) := hm.cell (fun f => f) hq35
            refine hK _ _ hq36 ?_
            clear hK K hq35
            try simp only [List.getElem_toArray, List.getElem_cons_succ, List.getElem_cons_zero, Act.put, List.setIfInBounds_toArray, List.set_cons_zero, List.set_cons_succ]
            obtain ⟨c6, hM6, hV1, hV2⟩ : ∃ c6, LinkM w w6 p q c6 L X ∧ Row w6 (fun k => c6 k = 7) 65 7 v1 ms.length (MsgV.vals ms) ∧ Row w6 (fun k => c6 k = 8) 65 7 v2 1 (MsgV.vals [X.msg 1]) := ⟨_, HM5.out.still hm 8, HV1.out.stillC HM5.out.col hm (by decide) 8, hv2.monoLt (paint_born _ w5 w6 8)⟩
            have HM6 := Lib.hid hM6
            have HV16 := Lib.hid hV1
            have HV26 := Lib.hid hV2
            obtain ⟨qp, fs6, _, hq6, hs6, _, _, _⟩ := hM6.x.sub
            have hqq : qp = qo4 := by have := hq6.symm.trans hq36; simpa using this
            subst hqq
            have HS6 := Lib.hid hs6
            clear hm hv2 hM6 hV1 hV2 HM5 HV1 hq6 hs6
            repeat (first | (refine plan_skip rfl rfl ?_; simp only [List.getElem_toArray, List.getElem_cons_succ, List.getElem_cons_zero, Act.put, List.setIfInBounds_toArray, List.set_cons_zero, List.set_cons_succ]) | (refine plan_pass2 rfl rfl ?_; simp only [List.getElem_toArray, List.getElem_cons_succ, List.getElem_cons_zero, Act.put, List.setIfInBounds_toArray, List.set_cons_zero, List.set_cons_succ]) | (refine plan_pass3 rfl rfl ?_; simp only [List.getElem_toArray, List.getElem_cons_succ, List.getElem_cons_zero, Act.put, List.setIfInBounds_toArray, List.set_cons_zero, List.set_cons_succ]) | (refine plan_take (v := ?_) rfl rfl ?_ ?_; rotate_left; (focus (intro w0; go_simp; try with_reducible rfl)); simp only [List.getElem_toArray, List.getElem_cons_succ, List.getElem_cons_zero, Act.put, List.setIfInBounds_toArray, List.set_cons_zero, List.set_cons_succ]) | (refine plan_held (v := ?_) rfl rfl hq36 ?_ ?_; rotate_left; (focus (intro w0 hSw; (try dsimp only at hSw); go_split_ands; go_simp; try with_reducible rfl)); simp only [List.getElem_toArray, List.getElem_cons_succ, List.getElem_cons_zero, Act.put, List.setIfInBounds_toArray, List.set_cons_zero, List.set_cons_succ])  | (refine plan_skip1 rfl rfl hq36 ?_; simp only [List.getElem_toArray, List.getElem_cons_succ, List.getElem_cons_zero, Act.put, List.setIfInBounds_toArray, List.set_cons_zero, List.set_cons_succ]))
            (refine plan_end rfl rfl rfl fun K hK => ?_; (try simp only [List.getElem_toArray, List.getElem_cons_succ, List.getElem_cons_zero]))
            go_simp
            refine (RefAgain_any qp fs6 X.s _ HS6.out).mono ?_; rintro e w7 ⟨v3, rfl, hv3, hm⟩
            have hq37 : w7.cell? ⟨q, 3, none⟩ = some (.pointer (some ⟨qp, 0, none⟩)) := hm.cell (fun f => f) hq36
            refine hK _ _ ?_
            clear hK K hq36
            try simp only [List.getElem_toArray, List.getElem_cons_succ, List.getElem_cons_zero, Act.put, List.setIfInBounds_toArray, List.set_cons_zero, List.set_cons_succ]
            obtain ⟨c7, hM7, hV1, hV2⟩ : ∃ c7, LinkM w w7 p q c7 L X ∧ Row w7 (fun k => c7 k = 7) 65 7 v1 ms.length (MsgV.vals ms) ∧ Row w7 (fun k => c7 k = 8) 65 7 v2 1 (MsgV.vals [X.msg 1]) := ⟨_, HM6.out.still hm 9, HV16.out.stillC HM6.out.col hm (by decide) 9, HV26.out.stillC HM6.out.col hm (by decide) 9⟩
            have HM7 := Lib.hid hM7
            have HV27 := Lib.hid hV2
            have HV17 := Lib.hid hV1
            have HV3 := Lib.hid hv3.reads
            have hal : X.s.again.length ≤ 64 := by have := HSOK.out.s2; have := HSOK.out.w1; have := HSOK.out.s1; simp [RefS.again, RefS.pkts]; omega
            clear hm hv3 hM7 hV1 hV2 HM6 HV26 HV16 HS6
            repeat (first | (refine plan_skip rfl rfl ?_; simp only [List.getElem_toArray, List.getElem_cons_succ, List.getElem_cons_zero, Act.put, List.setIfInBounds_toArray, List.set_cons_zero, List.set_cons_succ]) | (refine plan_pass2 rfl rfl ?_; simp only [List.getElem_toArray, List.getElem_cons_succ, List.getElem_cons_zero, Act.put, List.setIfInBounds_toArray, List.set_cons_zero, List.set_cons_succ]) | (refine plan_pass3 rfl rfl ?_; simp only [List.getElem_toArray, List.getElem_cons_succ, List.getElem_cons_zero, Act.put, List.setIfInBounds_toArray, List.set_cons_zero, List.set_cons_succ]) | (refine plan_take (v := ?_) rfl rfl ?_ ?_; rotate_left; (focus (intro w0; go_simp; try with_reducible rfl)); simp only [List.getElem_toArray, List.getElem_cons_succ, List.getElem_cons_zero, Act.put, List.setIfInBounds_toArray, List.set_cons_zero, List.set_cons_succ]) | (refine plan_held (v := ?_) rfl rfl hq37 ?_ ?_; rotate_left; (focus (intro w0 hSw; (try dsimp only at hSw); go_split_ands; go_simp; try with_reducible rfl)); simp only [List.getElem_toArray, List.getElem_cons_succ, List.getElem_cons_zero, Act.put, List.setIfInBounds_toArray, List.set_cons_zero, List.set_cons_succ])  | (refine plan_skip1 rfl rfl hq37 ?_; simp only [List.getElem_toArray, List.getElem_cons_succ, List.getElem_cons_zero, Act.put, List.setIfInBounds_toArray, List.set_cons_zero, List.set_cons_succ]))
            (refine plan_do rfl rfl fun K hK => ?_; try simp only [List.getElem_toArray, List.getElem_cons_succ, List.getElem_cons_zero])
            go_simp
            refine (RBodies_any q _ X v3 X.s.again _ HM7.out.x HV3.out (by omega)).mono ?_; rintro e w8 ⟨v4, rfl, hv4, hm⟩
            have hq38 : w8.cell? ⟨q, 3, none⟩ = some (.pointer (some ⟨qp, 0, none⟩)) := hm.cell (fun f => f) hq37
            refine hK _ _ hq38 ?_
            clear hK K hq37
            try simp only [List.getElem_toArray, List.getElem_cons_succ, List.getElem_cons_zero, Act.put, List.setIfInBounds_toArray, List.set_cons_zero, List.set_cons_succ]
            obtain ⟨c8, hM8, hV1, hV2⟩ : ∃ c8, LinkM w w8 p q c8 L X ∧ Row w8 (fun k => c8 k = 7) 65 7 v1 ms.length (MsgV.vals ms) ∧ Row w8 (fun k => c8 k = 8) 65 7 v2 1 (MsgV.vals [X.msg 1]) := ⟨_, HM7.out.still hm 10, HV17.out.stillC HM7.out.col hm (by decide) 10, HV27.out.stillC HM7.out.col hm (by decide) 10⟩
            have HM8 := Lib.hid hM8
            have HV28 := Lib.hid hV2
            have HV18 := Lib.hid hV1
            have HV4 := Lib.hid hv4.reads
            clear hm hv4 hM8 hV1 hV2 HM7 HV27 HV17 HV3
            repeat (first | (refine plan_skip rfl rfl ?_; simp only [List.getElem_toArray, List.getElem_cons_succ, List.getElem_cons_zero, Act.put, List.setIfInBounds_toArray, List.set_cons_zero, List.set_cons_succ]) | (refine plan_pass2 rfl rfl ?_; simp only [List.getElem_toArray, List.getElem_cons_succ, List.getElem_cons_zero, Act.put, List.setIfInBounds_toArray, List.set_cons_zero, List.set_cons_succ]) | (refine plan_pass3 rfl rfl ?_; simp only [List.getElem_toArray, List.getElem_cons_succ, List.getElem_cons_zero, Act.put, List.setIfInBounds_toArray, List.set_cons_zero, List.set_cons_succ]) | (refine plan_take (v := ?_) rfl rfl ?_ ?_; rotate_left; (focus (intro w0; go_simp; try with_reducible rfl)); simp only [List.getElem_toArray, List.getElem_cons_succ, List.getElem_cons_zero, Act.put, List.setIfInBounds_toArray, List.set_cons_zero, List.set_cons_succ]) | (refine plan_held (v := ?_) rfl rfl hq38 ?_ ?_; rotate_left; (focus (intro w0 hSw; (try dsimp only at hSw); go_split_ands; go_simp; try with_reducible rfl)); simp only [List.getElem_toArray, List.getElem_cons_succ, List.getElem_cons_zero, Act.put, List.setIfInBounds_toArray, List.set_cons_zero, List.set_cons_succ])  | (refine plan_skip1 rfl rfl hq38 ?_; simp only [List.getElem_toArray, List.getElem_cons_succ, List.getElem_cons_zero, Act.put, List.setIfInBounds_toArray, List.set_cons_zero, List.set_cons_succ]))
            (refine plan_do rfl rfl fun K hK => ?_; try simp only [List.getElem_toArray, List.getElem_cons_succ, List.getElem_cons_zero])
            refine wp_append_reads Try.elMsg (.tmp 76) (.tmp 83) rfl (fun k => c8 k = 8) v2 1 (MsgV.vals [X.msg 1]) rfl HV28.out v4 _ _ rfl HV4.out (by rw [MsgV.vals_len, List.length_map]) (MsgV.vals_all _) (by omega) (by unfold maxLen; omega) ?_
            intro v5 w9 hR hm9
            have hq39 : w9.cell? ⟨q, 3, none⟩ = some (.pointer (some ⟨qp, 0, none⟩)) := hm9.cell (by show ¬ c8 q = 8; rw [HM8.out.x.2.1.1]; decide) hq38
            refine hK _ _ hq39 ?_
            clear hK K hq38
            try simp only [List.getElem_toArray, List.getElem_cons_succ, List.getElem_cons_zero, Act.put, List.setIfInBounds_toArray, List.set_cons_zero, List.set_cons_succ]
            have hR9 : Row w9 (fun k => c8 k = 8 ∨ w8.heap.size ≤ k) 65 7 v5 ms.length (MsgV.vals ms) := by
              have e : MsgV.vals (X.msg 1 :: X.s.again.map X.body) = MsgV.vals [X.msg 1] ++ MsgV.vals (X.s.again.map X.body) := by simp [MsgV.vals]
              rw [HEQ.out.2.2, HMS.out, e]
              exact hR
            have HM9 : Hid (LinkM w w9 p q (paint c8 w8 w9 8) L X) := Lib.hid ⟨HM8.out.col.step hm9 (by decide) 8, (HM8.out.e.keep hm9 (mod_away (by decide))).mono (paint_away HM8.out.col (by decide) 8), (HM8.out.x.keep hm9 (mod_away (by decide))).mono (paint_away HM8.out.col (by decide) 8)⟩
            have HV9 := Lib.hid hR9.reads
            have HV19 := Lib.hid (HV18.out.keep hm9 (mod_away (by decide))).reads
            clear hR hR9 hm9 HM8 HV28 HV18 HV4
            repeat (first | (refine plan_skip rfl rfl ?_; simp only [List.getElem_toArray, List.getElem_cons_succ, List.getElem_cons_zero, Act.put, List.setIfInBounds_toArray, List.set_cons_zero, List.set_cons_succ]) | (refine plan_pass2 rfl rfl ?_; simp only [List.getElem_toArray, List.getElem_cons_succ, List.getElem_cons_zero, Act.put, List.setIfInBounds_toArray, List.set_cons_zero, List.set_cons_succ]) | (refine plan_pass3 rfl rfl ?_; simp only [List.getElem_toArray, List.getElem_cons_succ, List.getElem_cons_zero, Act.put, List.setIfInBounds_toArray, List.set_cons_zero, List.set_cons_succ]) | (refine plan_take (v := ?_) rfl rfl ?_ ?_; rotate_left; (focus (intro w0; go_simp; try with_reducible rfl)); simp only [List.getElem_toArray, List.getElem_cons_succ, List.getElem_cons_zero, Act.put, List.setIfInBounds_toArray, List.set_cons_zero, List.set_cons_succ]) | (refine plan_held (v := ?_) rfl rfl hq39 ?_ ?_; rotate_left; (focus (intro w0 hSw; (try dsimp only at hSw); go_split_ands; go_simp; try with_reducible rfl)); simp only [List.getElem_toArray, List.getElem_cons_succ, List.getElem_cons_zero, Act.put, List.setIfInBounds_toArray, List.set_cons_zero, List.set_cons_succ])  | (refine plan_skip1 rfl rfl hq39 ?_; simp only [List.getElem_toArray, List.getElem_cons_succ, List.getElem_cons_zero, Act.put, List.setIfInBounds_toArray, List.set_cons_zero, List.set_cons_succ]))
            (refine plan_do rfl rfl fun K hK => ?_; try simp only [List.getElem_toArray, List.getElem_cons_succ, List.getElem_cons_zero])
            go_simp
            refine (SameMsg_any v1 v5 ms.length ms _ rfl HV19.out HV9.out).mono ?_; rintro e w10 ⟨rfl, hm⟩
            refine hK _ _ (hm.cell (fun f => f) hq39) ?_
            clear hK K hq39
            try simp only [List.getElem_toArray, List.getElem_cons_succ, List.getElem_cons_zero, Act.put, List.setIfInBounds_toArray, List.set_cons_zero, List.set_cons_succ]
            have HM10 := Lib.hid (HM9.out.still hm 9)
            have HN : Hid (LinkL L X (j + 1)) := Lib.hid ⟨HAB.out, HUP.out, by omega, by omega⟩
            clear hm HM9 HV9 HV19 HEQ HMS HM4
            repeat (first | (refine plan_skip rfl rfl ?_; simp only [List.getElem_toArray, List.getElem_cons_succ, List.getElem_cons_zero, Act.put, List.setIfInBounds_toArray, List.set_cons_zero, List.set_cons_succ]) | (refine plan_pass2 rfl rfl ?_; simp only [List.getElem_toArray, List.getElem_cons_succ, List.getElem_cons_zero, Act.put, List.setIfInBounds_toArray, List.set_cons_zero, List.set_cons_succ]) | (refine plan_pass3 rfl rfl ?_; simp only [List.getElem_toArray, List.getElem_cons_succ, List.getElem_cons_zero, Act.put, List.setIfInBounds_toArray, List.set_cons_zero, List.set_cons_succ]) | (refine plan_take (v := ?_) rfl rfl ?_ ?_; rotate_left; (focus (intro w0; go_simp; try with_reducible rfl)); simp only [List.getElem_toArray, List.getElem_cons_succ, List.getElem_cons_zero, Act.put, List.setIfInBounds_toArray, List.set_cons_zero, List.set_cons_succ]) | fail )
            refine plan_nil ?_
            have hep : (L).epoch = (X).epoch := by rw [← HN.out.abs]; rfl
            have hop : ((L).out.bodies.length : Int) = (((X).s.l.length - (X).s.done : Nat) : Int) := by rw [← HN.out.abs]; unfold RLife.abs RefS.snd; simp
            have HEP := Lib.hid hep
            have HOP := Lib.hid hop
            obtain ⟨qo, fs, hq2, hq3, _⟩ := (HM10.out.drew).x.sub
            clear hep hop hq3
            go_wp2_with fail
            refine wp_region_plan [] [(0, 0), (2, 0), (3, 0), (4, 0), (5, 1), (1, 2), (6, 0), (7, 0), (8, 0), (10, 0), (9, 2), (11, 2), (12, 0), (13, 0)] (fun w' : World => w'.cell? ⟨q, 2, none⟩ = some (.int .u32 (X).epoch)) (by kernel_rfl) (by kernel_rfl) (fun d _ _ _ _ h => by cases d <;> exact h) ?_
            repeat (first | (refine plan_skip rfl rfl ?_; simp only [List.getElem_toArray, List.getElem_cons_succ, List.getElem_cons_zero, Act.put, List.setIfInBounds_toArray, List.set_cons_zero, List.set_cons_succ]) | (refine plan_pass2 rfl rfl ?_; simp only [List.getElem_toArray, List.getElem_cons_succ, List.getElem_cons_zero, Act.put, List.setIfInBounds_toArray, List.set_cons_zero, List.set_cons_succ]) | (refine plan_pass3 rfl rfl ?_; simp only [List.getElem_toArray, List.getElem_cons_succ, List.getElem_cons_zero, Act.put, List.setIfInBounds_toArray, List.set_cons_zero, List.set_cons_succ]) | (refine plan_take (v := ?_) rfl rfl ?_ ?_; rotate_left; (focus (intro w0; go_simp; try with_reducible rfl)); simp only [List.getElem_toArray, List.getElem_cons_succ, List.getElem_cons_zero, Act.put, List.setIfInBounds_toArray, List.set_cons_zero, List.set_cons_succ]) | (refine plan_held (v := ?_) rfl rfl hq2 ?_ ?_; rotate_left; (focus (intro w0 hSw; (try dsimp only at hSw); go_split_ands; go_simp; try with_reducible rfl)); simp only [List.getElem_toArray, List.getElem_cons_succ, List.getElem_cons_zero, Act.put, List.setIfInBounds_toArray, List.set_cons_zero, List.set_cons_succ])  | (refine plan_skip1 rfl rfl hq2 ?_; simp only [List.getElem_toArray, List.getElem_cons_succ, List.getElem_cons_zero, Act.put, List.setIfInBounds_toArray, List.set_cons_zero, List.set_cons_succ]))
            (refine plan_do rfl rfl fun K hK => ?_; try simp only [List.getElem_toArray, List.getElem_cons_succ, List.getElem_cons_zero])
            go_simp
            refine (EEpoch_any p _ (L) _ (HM10.out.drew).e).mono ?_; rintro e w' ⟨rfl, rfl⟩
            refine hK _ _ hq2 ?_
            clear hK K
            try simp only [List.getElem_toArray, List.getElem_cons_succ, List.getElem_cons_zero, Act.put, List.setIfInBounds_toArray, List.set_cons_zero, List.set_cons_succ]
            rw [HEP.out]
            repeat (first | (refine plan_skip rfl rfl ?_; simp only [List.getElem_toArray, List.getElem_cons_succ, List.getElem_cons_zero, Act.put, List.setIfInBounds_toArray, List.set_cons_zero, List.set_cons_succ]) | (refine plan_pass2 rfl rfl ?_; simp only [List.getElem_toArray, List.getElem_cons_succ, List.getElem_cons_zero, Act.put, List.setIfInBounds_toArray, List.set_cons_zero, List.set_cons_succ]) | (refine plan_pass3 rfl rfl ?_; simp only [List.getElem_toArray, List.getElem_cons_succ, List.getElem_cons_zero, Act.put, List.setIfInBounds_toArray, List.set_cons_zero, List.set_cons_succ]) | (refine plan_take (v := ?_) rfl rfl ?_ ?_; rotate_left; (focus (intro w0; go_simp; try with_reducible rfl)); simp only [List.getElem_toArray, List.getElem_cons_succ, List.getElem_cons_zero, Act.put, List.setIfInBounds_toArray, List.set_cons_zero, List.set_cons_succ]) | (refine plan_held (v := ?_) rfl rfl hq2 ?_ ?_; rotate_left; (focus (intro w0 hSw; (try dsimp only at hSw); go_split_ands; go_simp; try with_reducible rfl)); simp only [List.getElem_toArray, List.getElem_cons_succ, List.getElem_cons_zero, Act.put, List.setIfInBounds_toArray, List.set_cons_zero, List.set_cons_succ])  | (refine plan_skip1 rfl rfl hq2 ?_; simp only [List.getElem_toArray, List.getElem_cons_succ, List.getElem_cons_zero, Act.put, List.setIfInBounds_toArray, List.set_cons_zero, List.set_cons_succ]))
            (refine plan_do rfl rfl fun K hK => ?_; try simp only [List.getElem_toArray, List.getElem_cons_succ, List.getElem_cons_zero])
            go_simp
            refine (EOpen_any p _ (L) _ (HM10.out.drew).e).mono ?_; rintro e w' ⟨rfl, rfl⟩
            refine hK _ _ hq2 ?_
            clear hK K
            try simp only [List.getElem_toArray, List.getElem_cons_succ, List.getElem_cons_zero, Act.put, List.setIfInBounds_toArray, List.set_cons_zero, List.set_cons_succ]
            rw [HOP.out]
            repeat (first | (refine plan_skip rfl rfl ?_; simp only [List.getElem_toArray, List.getElem_cons_succ, List.getElem_cons_zero, Act.put, List.setIfInBounds_toArray, List.set_cons_zero, List.set_cons_succ]) | (refine plan_pass2 rfl rfl ?_; simp only [List.getElem_toArray, List.getElem_cons_succ, List.getElem_cons_zero, Act.put, List.setIfInBounds_toArray, List.set_cons_zero, List.set_cons_succ]) | (refine plan_pass3 rfl rfl ?_; simp only [List.getElem_toArray, List.getElem_cons_succ, List.getElem_cons_zero, Act.put, List.setIfInBounds_toArray, List.set_cons_zero, List.set_cons_succ]) | (refine plan_take (v := ?_) rfl rfl ?_ ?_; rotate_left; (focus (intro w0; go_simp; try with_reducible rfl)); simp only [List.getElem_toArray, List.getElem_cons_succ, List.getElem_cons_zero, Act.put, List.setIfInBounds_toArray, List.set_cons_zero, List.set_cons_succ]) | (refine plan_held (v := ?_) rfl rfl hq2 ?_ ?_; rotate_left; (focus (intro w0 hSw; (try dsimp only at hSw); go_split_ands; go_simp; try with_reducible rfl)); simp only [List.getElem_toArray, List.getElem_cons_succ, List.getElem_cons_zero, Act.put, List.setIfInBounds_toArray, List.set_cons_zero, List.set_cons_succ])  | (refine plan_skip1 rfl rfl hq2 ?_; simp only [List.getElem_toArray, List.getElem_cons_succ, List.getElem_cons_zero, Act.put, List.setIfInBounds_toArray, List.set_cons_zero, List.set_cons_succ]))
            (refine plan_do rfl rfl fun K hK => ?_; try simp only [List.getElem_toArray, List.getElem_cons_succ, List.getElem_cons_zero])
            go_simp
            refine (ROpen_any q _ (X) _ (HM10.out.drew).x).mono ?_; rintro e wz ⟨rfl, hm⟩
            refine hK _ _ (hm.cell (fun f => f) hq2) ?_
            clear hK K hq2
            try simp only [List.getElem_toArray, List.getElem_cons_succ, List.getElem_cons_zero, Act.put, List.setIfInBounds_toArray, List.set_cons_zero, List.set_cons_succ]
            have HMz := Lib.hid ((HM10.out.drew).still hm 11)
            clear hm
            repeat (first | (refine plan_skip rfl rfl ?_; simp only [List.getElem_toArray, List.getElem_cons_succ, List.getElem_cons_zero, Act.put, List.setIfInBounds_toArray, List.set_cons_zero, List.set_cons_succ]) | (refine plan_pass2 rfl rfl ?_; simp only [List.getElem_toArray, List.getElem_cons_succ, List.getElem_cons_zero, Act.put, List.setIfInBounds_toArray, List.set_cons_zero, List.set_cons_succ]) | (refine plan_pass3 rfl rfl ?_; simp only [List.getElem_toArray, List.getElem_cons_succ, List.getElem_cons_zero, Act.put, List.setIfInBounds_toArray, List.set_cons_zero, List.set_cons_succ]) | (refine plan_take (v := ?_) rfl rfl ?_ ?_; rotate_left; (focus (intro w0; go_simp; try with_reducible rfl)); simp only [List.getElem_toArray, List.getElem_cons_succ, List.getElem_cons_zero, Act.put, List.setIfInBounds_toArray, List.set_cons_zero, List.set_cons_succ]) | fail )
            refine plan_nil ?_
            go_wp2
            go_roundw
            case rel => exact ⟨j + 1, _, _, _, by omega, by omega, by go_num, HMz.out, HN.out⟩
            case measure => simp [intOf]; omega
        · as_aux_lemma =>
            obtain ⟨wA, hwA⟩ : ∃ wA, wA = (w3.alloc (.cells #[.int .i64 3, .int .i64 zn, .int .i64 m.node, .bool m.up, .int .u32 m.epoch, .int .i64 m.kind, .int .u32 m.ack, .int .u32 m.seq, .string m.body] 67)) := ⟨_, rfl⟩
            have hbA : wA.heap[w3.heap.size]? = _ := hwA ▸ allocNew w3 _
            obtain ⟨c4, hM4, hcp⟩ : ∃ c4, LinkM w wA p q c4 L X ∧ c4 w3.heap.size = 9 := ⟨_, HM3.out.still (hwA ▸ (Mod.refl _ _).alloc _) 9, paint_born _ w3 wA 9 _ (Nat.le_refl _) (by rw [hwA]; simp)⟩
            have HM4 := Lib.hid hM4
            have HB4 := Lib.hid hbA
            have HP4 := Lib.hid hcp
            have hok : X.s.Ok := by obtain ⟨_, _, _, _, h, _⟩ := hM4.x.sub; exact h.1
            have HSOK := Lib.hid hok
            have HAB := Lib.hid HL.out.abs
            have HUP := Lib.hid HL.out.up
            clear hM4 hbA hcp hok HM3
            have HMC : Hid (m.cells = #[.int .i64 m.node, .bool m.up, .int .u32 m.epoch, .int .i64 m.kind, .int .u32 m.ack, .int .u32 m.seq, .string m.body]) := Lib.hid rfl
            go_wp2_with fail
            rw [← HMC.out, ← hwA]
            clear hwA
            refine (EHear_any p _ L m _ HM4.out.e HOK.out).mono ?_; rintro e w5 ⟨v1, rfl, hv1, he, hm⟩
            have y2 : w5.cell? ⟨w3.heap.size, 2, none⟩ = some (.int .i64 m.node) := hm.cell (by show ¬ c4 w3.heap.size = 1; rw [HP4.out]; decide) (cellOf HB4.out 2)
            have y3 : w5.cell? ⟨w3.heap.size, 3, none⟩ = some (.bool m.up) := hm.cell (by show ¬ c4 w3.heap.size = 1; rw [HP4.out]; decide) (cellOf HB4.out 3)
            have y4 : w5.cell? ⟨w3.heap.size, 4, none⟩ = some (.int .u32 m.epoch) := hm.cell (by show ¬ c4 w3.heap.size = 1; rw [HP4.out]; decide) (cellOf HB4.out 4)
            have y5 : w5.cell? ⟨w3.heap.size, 5, none⟩ = some (.int .i64 m.kind) := hm.cell (by show ¬ c4 w3.heap.size = 1; rw [HP4.out]; decide) (cellOf HB4.out 5)
            have y6 : w5.cell? ⟨w3.heap.size, 6, none⟩ = some (.int .u32 m.ack) := hm.cell (by show ¬ c4 w3.heap.size = 1; rw [HP4.out]; decide) (cellOf HB4.out 6)
            have y7 : w5.cell? ⟨w3.heap.size, 7, none⟩ = some (.int .u32 m.seq) := hm.cell (by show ¬ c4 w3.heap.size = 1; rw [HP4.out]; decide) (cellOf HB4.out 7)
            have y8 : w5.cell? ⟨w3.heap.size, 8, none⟩ = some (.string m.body) := hm.cell (by show ¬ c4 w3.heap.size = 1; rw [HP4.out]; decide) (cellOf HB4.out 8)
            obtain ⟨c5, hM5, hV1⟩ : ∃ c5, LinkM w w5 p q c5 _ X ∧ Row w5 (fun k => c5 k = 1) 9 1 v1 (L.ehear m).1.length ((L.ehear m).1.map .string) := ⟨_, HM4.out.eM he hm, hv1.monoLt (paint_born c4 wA w5 1)⟩
            have HM5 := Lib.hid hM5
            have HV1 := Lib.hid hV1
            have hxn : X.r.n + 64 ≤ 1099511627776 := by omega
            obtain ⟨lh, hlh⟩ : ∃ lh, lh = L.ehear m := ⟨_, rfl⟩
            have hlx : X.abs.ehear m = lh := by rw [HAB.out, hlh]
            rw [← hlh] at HM5 HV1 ⊢
            have HLX := Lib.hid hlx
            clear he hm hM5 hV1 hv1 hlx hlh
            go_wp2_with fail
            rw [← HMC.out]
            refine (RHear_any q _ X m _ HM5.out.x HOK.out HUP.out hxn).mono ?_; rintro e w6 ⟨v2, X', rfl, hv2, hx, hab, hup, hsl, hrn, hm⟩
            rw [HLX.out] at hv2 hab ⊢
            have HM6 := Lib.hid (HM5.out.xM hx hm)
            have HV2 := Lib.hid hv2.reads
            have HV16 := Lib.hid (HV1.out.keep hm (mod_away (by decide))).reads
            have HN : Hid (LinkL lh.2.2 X' (j + 1)) := Lib.hid ⟨hab, hup, by omega, by omega⟩
            clear hv2 hx hab hup hsl hrn hm HM5 HV1 HM4 y2 y3 y4 y5 y6 y7 y8
            go_wp2_with fail
            refine (SameStr_any _ _ lh.1 lh.1 _ HV16.out HV2.out).mono ?_; rintro e w7 ⟨rfl, hm⟩
            have HM7 := Lib.hid (HM6.out.still hm 8)
            clear hm HV16 HV2 HM6
            simp only [decide_true]
            generalize lh.2.1 = fl9
            have hep : (lh.2.2).epoch = (X').epoch := by rw [← HN.out.abs]; rfl
            have hop : ((lh.2.2).out.bodies.length : Int) = (((X').s.l.length - (X').s.done : Nat) : Int) := by rw [← HN.out.abs]; unfold RLife.abs RefS.snd; simp
            have HEP := Lib.hid hep
            have HOP := Lib.hid hop
            obtain ⟨qo, fs, hq2, hq3, _⟩ := (HM7.out.drew).x.sub
            clear hep hop hq3
            go_wp2_with fail
            refine wp_region_plan [] [(0, 0), (2, 0), (3, 0), (4, 0), (5, 1), (1, 2), (6, 0), (7, 0), (8, 0), (10, 0), (9, 2), (11, 2), (12, 0), (13, 0)] (fun w' : World => w'.cell? ⟨q, 2, none⟩ = some (.int .u32 (X').epoch)) (by kernel_rfl) (by kernel_rfl) (fun d _ _ _ _ h => by cases d <;> exact h) ?_
            repeat (first | (refine plan_skip rfl rfl ?_; simp only [List.getElem_toArray, List.getElem_cons_succ, List.getElem_cons_zero, Act.put, List.setIfInBounds_toArray, List.set_cons_zero, List.set_cons_succ]) | (refine plan_pass2 rfl rfl ?_; simp only [List.getElem_toArray, List.getElem_cons_succ, List.getElem_cons_zero, Act.put, List.setIfInBounds_toArray, List.set_cons_zero, List.set_cons_succ]) | (refine plan_pass3 rfl rfl ?_; simp only [List.getElem_toArray, List.getElem_cons_succ, List.getElem_cons_zero, Act.put, List.setIfInBounds_toArray, List.set_cons_zero, List.set_cons_succ]) | (refine plan_take (v := ?_) rfl rfl ?_ ?_; rotate_left; (focus (intro w0; go_simp; try with_reducible rfl)); simp only [List.getElem_toArray, List.getElem_cons_succ, List.getElem_cons_zero, Act.put, List.setIfInBounds_toArray, List.set_cons_zero, List.set_cons_succ]) | (refine plan_held (v := ?_) rfl rfl hq2 ?_ ?_; rotate_left; (focus (intro w0 hSw; (try dsimp only at hSw); go_split_ands; go_simp; try with_reducible rfl)); simp only [List.getElem_toArray, List.getElem_cons_succ, List.getElem_cons_zero, Act.put, List.setIfInBounds_toArray, List.set_cons_zero, List.set_cons_succ])  | (refine plan_skip1 rfl rfl hq2 ?_; simp only [List.getElem_toArray, List.getElem_cons_succ, List.getElem_cons_zero, Act.put, List.setIfInBounds_toArray, List.set_cons_zero, List.set_cons_succ]))
            (refine plan_do rfl rfl fun K hK => ?_; try simp only [List.getElem_toArray, List.getElem_cons_succ, List.getElem_cons_zero])
            go_simp
            refine (EEpoch_any p _ (lh.2.2) _ (HM7.out.drew).e).mono ?_; rintro e w' ⟨rfl, rfl⟩
            refine hK _ _ hq2 ?_
            clear hK K
            try simp only [List.getElem_toArray, List.getElem_cons_succ, List.getElem_cons_zero, Act.put, List.setIfInBounds_toArray, List.set_cons_zero, List.set_cons_succ]
            rw [HEP.out]
            repeat (first | (refine plan_skip rfl rfl ?_; simp only [List.getElem_toArray, List.getElem_cons_succ, List.getElem_cons_zero, Act.put, List.setIfInBounds_toArray, List.set_cons_zero, List.set_cons_succ]) | (refine plan_pass2 rfl rfl ?_; simp only [List.getElem_toArray, List.getElem_cons_succ, List.getElem_cons_zero, Act.put, List.setIfInBounds_toArray, List.set_cons_zero, List.set_cons_succ]) | (refine plan_pass3 rfl rfl ?_; simp only [List.getElem_toArray, List.getElem_cons_succ, List.getElem_cons_zero, Act.put, List.setIfInBounds_toArray, List.set_cons_zero, List.set_cons_succ]) | (refine plan_take (v := ?_) rfl rfl ?_ ?_; rotate_left; (focus (intro w0; go_simp; try with_reducible rfl)); simp only [List.getElem_toArray, List.getElem_cons_succ, List.getElem_cons_zero, Act.put, List.setIfInBounds_toArray, List.set_cons_zero, List.set_cons_succ]) | (refine plan_held (v := ?_) rfl rfl hq2 ?_ ?_; rotate_left; (focus (intro w0 hSw; (try dsimp only at hSw); go_split_ands; go_simp; try with_reducible rfl)); simp only [List.getElem_toArray, List.getElem_cons_succ, List.getElem_cons_zero, Act.put, List.setIfInBounds_toArray, List.set_cons_zero, List.set_cons_succ])  | (refine plan_skip1 rfl rfl hq2 ?_; simp only [List.getElem_toArray, List.getElem_cons_succ, List.getElem_cons_zero, Act.put, List.setIfInBounds_toArray, List.set_cons_zero, List.set_cons_succ]))
            (refine plan_do rfl rfl fun K hK => ?_; try simp only [List.getElem_toArray, List.getElem_cons_succ, List.getElem_cons_zero])
            go_simp
            refine (EOpen_any p _ (lh.2.2) _ (HM7.out.drew).e).mono ?_; rintro e w' ⟨rfl, rfl⟩
            refine hK _ _ hq2 ?_
            clear hK K
            try simp only [List.getElem_toArray, List.getElem_cons_succ, List.getElem_cons_zero, Act.put, List.setIfInBounds_toArray, List.set_cons_zero, List.set_cons_succ]
            rw [HOP.out]
            repeat (first | (refine plan_skip rfl rfl ?_; simp only [List.getElem_toArray, List.getElem_cons_succ, List.getElem_cons_zero, Act.put, List.setIfInBounds_toArray, List.set_cons_zero, List.set_cons_succ]) | (refine plan_pass2 rfl rfl ?_; simp only [List.getElem_toArray, List.getElem_cons_succ, List.getElem_cons_zero, Act.put, List.setIfInBounds_toArray, List.set_cons_zero, List.set_cons_succ]) | (refine plan_pass3 rfl rfl ?_; simp only [List.getElem_toArray, List.getElem_cons_succ, List.getElem_cons_zero, Act.put, List.setIfInBounds_toArray, List.set_cons_zero, List.set_cons_succ]) | (refine plan_take (v := ?_) rfl rfl ?_ ?_; rotate_left; (focus (intro w0; go_simp; try with_reducible rfl)); simp only [List.getElem_toArray, List.getElem_cons_succ, List.getElem_cons_zero, Act.put, List.setIfInBounds_toArray, List.set_cons_zero, List.set_cons_succ]) | (refine plan_held (v := ?_) rfl rfl hq2 ?_ ?_; rotate_left; (focus (intro w0 hSw; (try dsimp only at hSw); go_split_ands; go_simp; try with_reducible rfl)); simp only [List.getElem_toArray, List.getElem_cons_succ, List.getElem_cons_zero, Act.put, List.setIfInBounds_toArray, List.set_cons_zero, List.set_cons_succ])  | (refine plan_skip1 rfl rfl hq2 ?_; simp only [List.getElem_toArray, List.getElem_cons_succ, List.getElem_cons_zero, Act.put, List.setIfInBounds_toArray, List.set_cons_zero, List.set_cons_succ]))
            (refine plan_do rfl rfl fun K hK => ?_; try simp only [List.getElem_toArray, List.getElem_cons_succ, List.getElem_cons_zero])
            go_simp
            refine (ROpen_any q _ (X') _ (HM7.out.drew).x).mono ?_; rintro e wz ⟨rfl, hm⟩
            refine hK _ _ (hm.cell (fun f => f) hq2) ?_
            clear hK K hq2
            try simp only [List.getElem_toArray, List.getElem_cons_succ, List.getElem_cons_zero, Act.put, List.setIfInBounds_toArray, List.set_cons_zero, List.set_cons_succ]
            have HMz := Lib.hid ((HM7.out.drew).still hm 11)
            clear hm
            repeat (first | (refine plan_skip rfl rfl ?_; simp only [List.getElem_toArray, List.getElem_cons_succ, List.getElem_cons_zero, Act.put, List.setIfInBounds_toArray, List.set_cons_zero, List.set_cons_succ]) | (refine plan_pass2 rfl rfl ?_; simp only [List.getElem_toArray, List.getElem_cons_succ, List.getElem_cons_zero, Act.put, List.setIfInBounds_toArray, List.set_cons_zero, List.set_cons_succ]) | (refine plan_pass3 rfl rfl ?_; simp only [List.getElem_toArray, List.getElem_cons_succ, List.getElem_cons_zero, Act.put, List.setIfInBounds_toArray, List.set_cons_zero, List.set_cons_succ]) | (refine plan_take (v := ?_) rfl rfl ?_ ?_; rotate_left; (focus (intro w0; go_simp; try with_reducible rfl)); simp only [List.getElem_toArray, List.getElem_cons_succ, List.getElem_cons_zero, Act.put, List.setIfInBounds_toArray, List.set_cons_zero, List.set_cons_succ]) | fail )
            refine plan_nil ?_
            go_wp2
            go_roundw
            case rel => exact ⟨j + 1, _, _, _, by omega, by omega, by go_num, HMz.out, HN.out⟩
            case measure => simp [intOf]; omega
        · as_aux_lemma =>
            obtain ⟨wA, hwA⟩ : ∃ wA, wA = (w3.alloc (.cells #[.int .i64 kd, .int .i64 zn, .int .i64 m.node, .bool m.up, .int .u32 m.epoch, .int .i64 m.kind, .int .u32 m.ack, .int .u32 m.seq, .string m.body] 67)) := ⟨_, rfl⟩
            have hbA : wA.heap[w3.heap.size]? = _ := hwA ▸ allocNew w3 _
            obtain ⟨c4, hM4, hcp⟩ : ∃ c4, LinkM w wA p q c4 L X ∧ c4 w3.heap.size = 9 := ⟨_, HM3.out.still (hwA ▸ (Mod.refl _ _).alloc _) 9, paint_born _ w3 wA 9 _ (Nat.le_refl _) (by rw [hwA]; simp)⟩
            have HM4 := Lib.hid hM4
            have HB4 := Lib.hid hbA
            have HP4 := Lib.hid hcp
            have hok : X.s.Ok := by obtain ⟨_, _, _, _, h, _⟩ := hM4.x.sub; exact h.1
            have HSOK := Lib.hid hok
            have HAB := Lib.hid HL.out.abs
            have HUP := Lib.hid HL.out.up
            clear hM4 hbA hcp hok HM3
            have q0 : ¬ kd = 0 := by omega
            have q1 : ¬ kd = 1 := by omega
            have q2 : ¬ kd = 2 := by omega
            have q3 : ¬ kd = 3 := by omega
            go_wp2_with fail
            rw [← hwA]
            clear hwA
            refine (ECrash_any p _ L _ HM4.out.e).mono ?_; rintro e w5 ⟨⟨u, rfl⟩, he, hm⟩
            have HM5 := Lib.hid (HM4.out.eM he hm)
            clear he hm
            go_wp2_with fail
            refine (RNext_any q _ X _ HM5.out.x).mono ?_; rintro e w6 ⟨⟨u', rfl⟩, hx, hm⟩
            have HM6 := Lib.hid (HM5.out.xM hx hm)
            have HN : Hid (LinkL L.next X.next (j + 1)) := Lib.hid ⟨by rw [← HAB.out]; exact next_abs HUP.out, HUP.out, Nat.zero_le _, Nat.zero_le _⟩
            clear hx hm HM5 HM4
            have hep : (L.next).epoch = (X.next).epoch := by rw [← HN.out.abs]; rfl
            have hop : ((L.next).out.bodies.length : Int) = (((X.next).s.l.length - (X.next).s.done : Nat) : Int) := by rw [← HN.out.abs]; unfold RLife.abs RefS.snd; simp
            have HEP := Lib.hid hep
            have HOP := Lib.hid hop
            obtain ⟨qo, fs, hq2, hq3, _⟩ := (HM6.out.drew).x.sub
            clear hep hop hq3
            go_wp2_with fail
            refine wp_region_plan [] [(0, 0), (2, 0), (3, 0), (4, 0), (5, 1), (1, 2), (6, 0), (7, 0), (8, 0), (10, 0), (9, 2), (11, 2), (12, 0), (13, 0)] (fun w' : World => w'.cell? ⟨q, 2, none⟩ = some (.int .u32 (X.next).epoch)) (by kernel_rfl) (by kernel_rfl) (fun d _ _ _ _ h => by cases d <;> exact h) ?_
            repeat (first | (refine plan_skip rfl rfl ?_; simp only [List.getElem_toArray, List.getElem_cons_succ, List.getElem_cons_zero, Act.put, List.setIfInBounds_toArray, List.set_cons_zero, List.set_cons_succ]) | (refine plan_pass2 rfl rfl ?_; simp only [List.getElem_toArray, List.getElem_cons_succ, List.getElem_cons_zero, Act.put, List.setIfInBounds_toArray, List.set_cons_zero, List.set_cons_succ]) | (refine plan_pass3 rfl rfl ?_; simp only [List.getElem_toArray, List.getElem_cons_succ, List.getElem_cons_zero, Act.put, List.setIfInBounds_toArray, List.set_cons_zero, List.set_cons_succ]) | (refine plan_take (v := ?_) rfl rfl ?_ ?_; rotate_left; (focus (intro w0; go_simp; try with_reducible rfl)); simp only [List.getElem_toArray, List.getElem_cons_succ, List.getElem_cons_zero, Act.put, List.setIfInBounds_toArray, List.set_cons_zero, List.set_cons_succ]) | (refine plan_held (v := ?_) rfl rfl hq2 ?_ ?_; rotate_left; (focus (intro w0 hSw; (try dsimp only at hSw); go_split_ands; go_simp; try with_reducible rfl)); simp only [List.getElem_toArray, List.getElem_cons_succ, List.getElem_cons_zero, Act.put, List.setIfInBounds_toArray, List.set_cons_zero, List.set_cons_succ])  | (refine plan_skip1 rfl rfl hq2 ?_; simp only [List.getElem_toArray, List.getElem_cons_succ, List.getElem_cons_zero, Act.put, List.setIfInBounds_toArray, List.set_cons_zero, List.set_cons_succ]))
            (refine plan_do rfl rfl fun K hK => ?_; try simp only [List.getElem_toArray, List.getElem_cons_succ, List.getElem_cons_zero])
            go_simp
            refine (EEpoch_any p _ (L.next) _ (HM6.out.drew).e).mono ?_; rintro e w' ⟨rfl, rfl⟩
            refine hK _ _ hq2 ?_
            clear hK K
            try simp only [List.getElem_toArray, List.getElem_cons_succ, List.getElem_cons_zero, Act.put, List.setIfInBounds_toArray, List.set_cons_zero, List.set_cons_succ]
            rw [HEP.out]
            repeat (first | (refine plan_skip rfl rfl ?_; simp only [List.getElem_toArray, List.getElem_cons_succ, List.getElem_cons_zero, Act.put, List.setIfInBounds_toArray, List.set_cons_zero, List.set_cons_succ]) | (refine plan_pass2 rfl rfl ?_; simp only [List.getElem_toArray, List.getElem_cons_succ, List.getElem_cons_zero, Act.put, List.setIfInBounds_toArray, List.set_cons_zero, List.set_cons_succ]) | (refine plan_pass3 rfl rfl ?_; simp only [List.getElem_toArray, List.getElem_cons_succ, List.getElem_cons_zero, Act.put, List.setIfInBounds_toArray, List.set_cons_zero, List.set_cons_succ]) | (refine plan_take (v := ?_) rfl rfl ?_ ?_; rotate_left; (focus (intro w0; go_simp; try with_reducible rfl)); simp only [List.getElem_toArray, List.getElem_cons_succ, List.getElem_cons_zero, Act.put, List.setIfInBounds_toArray, List.set_cons_zero, List.set_cons_succ]) | (refine plan_held (v := ?_) rfl rfl hq2 ?_ ?_; rotate_left; (focus (intro w0 hSw; (try dsimp only at hSw); go_split_ands; go_simp; try with_reducible rfl)); simp only [List.getElem_toArray, List.getElem_cons_succ, List.getElem_cons_zero, Act.put, List.setIfInBounds_toArray, List.set_cons_zero, List.set_cons_succ])  | (refine plan_skip1 rfl rfl hq2 ?_; simp only [List.getElem_toArray, List.getElem_cons_succ, List.getElem_cons_zero, Act.put, List.setIfInBounds_toArray, List.set_cons_zero, List.set_cons_succ]))
            (refine plan_do rfl rfl fun K hK => ?_; try simp only [List.getElem_toArray, List.getElem_cons_succ, List.getElem_cons_zero])
            go_simp
            refine (EOpen_any p _ (L.next) _ (HM6.out.drew).e).mono ?_; rintro e w' ⟨rfl, rfl⟩
            refine hK _ _ hq2 ?_
            clear hK K
            try simp only [List.getElem_toArray, List.getElem_cons_succ, List.getElem_cons_zero, Act.put, List.setIfInBounds_toArray, List.set_cons_zero, List.set_cons_succ]
            rw [HOP.out]
            repeat (first | (refine plan_skip rfl rfl ?_; simp only [List.getElem_toArray, List.getElem_cons_succ, List.getElem_cons_zero, Act.put, List.setIfInBounds_toArray, List.set_cons_zero, List.set_cons_succ]) | (refine plan_pass2 rfl rfl ?_; simp only [List.getElem_toArray, List.getElem_cons_succ, List.getElem_cons_zero, Act.put, List.setIfInBounds_toArray, List.set_cons_zero, List.set_cons_succ]) | (refine plan_pass3 rfl rfl ?_; simp only [List.getElem_toArray, List.getElem_cons_succ, List.getElem_cons_zero, Act.put, List.setIfInBounds_toArray, List.set_cons_zero, List.set_cons_succ]) | (refine plan_take (v := ?_) rfl rfl ?_ ?_; rotate_left; (focus (intro w0; go_simp; try with_reducible rfl)); simp only [List.getElem_toArray, List.getElem_cons_succ, List.getElem_cons_zero, Act.put, List.setIfInBounds_toArray, List.set_cons_zero, List.set_cons_succ]) | (refine plan_held (v := ?_) rfl rfl hq2 ?_ ?_; rotate_left; (focus (intro w0 hSw; (try dsimp only at hSw); go_split_ands; go_simp; try with_reducible rfl)); simp only [List.getElem_toArray, List.getElem_cons_succ, List.getElem_cons_zero, Act.put, List.setIfInBounds_toArray, List.set_cons_zero, List.set_cons_succ])  | (refine plan_skip1 rfl rfl hq2 ?_; simp only [List.getElem_toArray, List.getElem_cons_succ, List.getElem_cons_zero, Act.put, List.setIfInBounds_toArray, List.set_cons_zero, List.set_cons_succ]))
            (refine plan_do rfl rfl fun K hK => ?_; try simp only [List.getElem_toArray, List.getElem_cons_succ, List.getElem_cons_zero])
            go_simp
            refine (ROpen_any q _ (X.next) _ (HM6.out.drew).x).mono ?_; rintro e wz ⟨rfl, hm⟩
            refine hK _ _ (hm.cell (fun f => f) hq2) ?_
            clear hK K hq2
            try simp only [List.getElem_toArray, List.getElem_cons_succ, List.getElem_cons_zero, Act.put, List.setIfInBounds_toArray, List.set_cons_zero, List.set_cons_succ]
            have HMz := Lib.hid ((HM6.out.drew).still hm 11)
            clear hm
            repeat (first | (refine plan_skip rfl rfl ?_; simp only [List.getElem_toArray, List.getElem_cons_succ, List.getElem_cons_zero, Act.put, List.setIfInBounds_toArray, List.set_cons_zero, List.set_cons_succ]) | (refine plan_pass2 rfl rfl ?_; simp only [List.getElem_toArray, List.getElem_cons_succ, List.getElem_cons_zero, Act.put, List.setIfInBounds_toArray, List.set_cons_zero, List.set_cons_succ]) | (refine plan_pass3 rfl rfl ?_; simp only [List.getElem_toArray, List.getElem_cons_succ, List.getElem_cons_zero, Act.put, List.setIfInBounds_toArray, List.set_cons_zero, List.set_cons_succ]) | (refine plan_take (v := ?_) rfl rfl ?_ ?_; rotate_left; (focus (intro w0; go_simp; try with_reducible rfl)); simp only [List.getElem_toArray, List.getElem_cons_succ, List.getElem_cons_zero, Act.put, List.setIfInBounds_toArray, List.set_cons_zero, List.set_cons_succ]) | fail )
            refine plan_nil ?_
            go_wp2
            go_roundw
            case rel => exact ⟨j + 1, _, _, _, by omega, by omega, by go_num, HMz.out, HN.out⟩
            case measure => simp [intOf]; omega
      · have hki : (j : Int) < (n : Int) := by omega
        have hki4 : ¬ (j : Int) < 40 := by omega
        have HMM := Lib.hid HM.out.col.mod
        go_wp2_with fail
        refine (lives29_any _).mono ?_; rintro e w3 ⟨rfl, hm⟩
        have HM3 := Lib.hid (HMM.out.trans hm fun _ f => f.elim)
        clear hm
        go_wp2
        go_ret
        exact ⟨rfl, HM3.out⟩
    · have hki : ¬ (j : Int) < (n : Int) := by omega
      have HMM := Lib.hid HM.out.col.mod
      go_wp2_with fail
      refine (lives29_any _).mono ?_; rintro e w3 ⟨rfl, hm⟩
      have HM3 := Lib.hid (HMM.out.trans hm fun _ f => f.elim)
      clear hm
      go_wp2
      go_ret
      exact ⟨rfl, HM3.out⟩
end Go.Proofs.Ytidkapanpieflaa
