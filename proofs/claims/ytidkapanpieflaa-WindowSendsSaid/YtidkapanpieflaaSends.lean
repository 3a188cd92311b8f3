/- WindowSends: the walk. -/
import Derived.Test.YtidkapanpieflaaActs
import Derived.Test.YtidkapanpieflaaSndRel
namespace Go.Proofs.Ytidkapanpieflaa
open Go.RowKit
set_option linter.unusedVariables false
set_option linter.unusedSimpArgs false
structure SendsAt (w wr : World) (p q j : Nat) (a0 : Int) (c : Nat → Nat) (s : RefS) : Prop where
  col : Col w wr c
  snd : SndAt wr p (fun k => c k = 1) s.snd
  ref : RefSAt wr q (fun k => c k = 2) s
  n : s.l.length ≤ j
  fi : s.first = a0
theorem SndAt.drewS {w : World} {p : Nat} {f : Nat → Prop} {s : Snd} (h : SndAt w p f s) : SndAt w.drew p f s := h
theorem push_len (s : RefS) (b : ByteArray) : (s.push b).l.length ≤ s.l.length + 1 := by
  unfold RefS.push
  split
  · show (s.l ++ [b]).length ≤ _
    simp
  · omega
theorem push_first (s : RefS) (b : ByteArray) : (s.push b).first = s.first := by
  unfold RefS.push
  split <;> rfl
set_option maxHeartbeats 40000000 in
set_option maxRecDepth 100000 in
theorem sends_walk (a0 a1 : Int) (h00 : 0 ≤ a0) (h01 : a0 < 4294967296) (v : Value) (n : Nat) (l : Nat → ActV) (w : World) (hl : ActRow w v n l) :
    Calls Try.prog 6 #[.int .u32 a0, .int .i64 a1, v] w fun e w' => e = .returned (.bool true) ∧ Mod (fun _ => False) w w' := by
  obtain ⟨ad, cap, rfl, hn, hc, hg⟩ := hl
  have hn63 : n ≤ 9223372036854775807 := by unfold maxLen at hc; omega
  have HG := Lib.hid hg
  clear hg
  go_enter Try.func6, Try.ntmps6
  go_wp2_with fail
  refine (NewSender_any a0 a1 _ h00 h01).mono ?_; rintro e w1 ⟨p, rfl, hs, hm⟩
  obtain ⟨c1, hC, hs⟩ : ∃ c, Col w w1 c ∧ SndAt w1 p (fun k => c k = 1) ⟨a0, [], 0, Snd.width a1⟩ := ⟨_, (Col.start w).still hm 1, hs.born (fun _ => 0) 1⟩
  have HC := Lib.hid hC
  have HS := Lib.hid hs
  clear hC hs hm
  go_wp2_with fail
  refine (NewS_any a0 a1 _ h00 h01).mono ?_; rintro e w2 ⟨q, rfl, hr, hm⟩
  have hT : Hid (SendsAt w w2 p q 0 a0 (paint c1 w1 w2 2) ⟨a0, Snd.width a1, [], 0, 0⟩) := by
    refine Lib.hid ⟨HC.out.still hm 2, ?_, hr.born c1 2, Nat.zero_le _, rfl⟩
    have := HS.out.still HC.out hm (by decide) 2
    rw [show RefS.snd ⟨a0, Snd.width a1, [], 0, 0⟩ = (⟨a0, [], 0, Snd.width a1⟩ : Snd) by unfold RefS.snd Sr.add; congr 1; simp; omega]
    exact this
  clear HC HS hr hm
  go_wp2_with fail
  go_loopw [9] (fun i wr => ∃ (j : Nat) (c : Nat → Nat) (s : RefS), j ≤ n ∧ j ≤ 40 ∧ i = .int .i64 j ∧ SendsAt w wr p q j a0 c s) (fun i _ => n - (intOf i).toNat)
  case atStart => exact ⟨0, _, _, Nat.zero_le _, by decide, rfl, hT.out⟩
  case round =>
    obtain ⟨j, c, s, hj, hj40, rfl, hF⟩ := hrel
    have HF := Lib.hid hF
    clear hF hT
    by_cases hlt : j < n
    · by_cases h40 : j < 40
      · obtain ⟨g, o, rfl, hgl, hcg⟩ := HG.out (by omega)
        obtain ⟨hk, hN, hc0, hc1, hc2⟩ := hcg j hlt
        obtain ⟨kd, hkd⟩ : ∃ kd, kd = (l j).kind := ⟨_, rfl⟩
        obtain ⟨bd, hbd⟩ : ∃ bd, bd = (l j).body := ⟨_, rfl⟩
        obtain ⟨nb, hnb⟩ : ∃ nb, nb = (l j).n := ⟨_, rfl⟩
        rw [← hkd] at hk hc0
        rw [← hbd] at hc1
        rw [← hnb] at hN hc2
        have k0 : wr.cell? ⟨g, o + j * 3, none⟩ = some (.int .i64 kd) := HF.out.col.mod.cell (fun f => f) hc0
        have k1 : wr.cell? ⟨g, o + j * 3 + 1, none⟩ = some (.string bd) := HF.out.col.mod.cell (fun f => f) hc1
        have k2 : wr.cell? ⟨g, o + j * 3 + 2, none⟩ = some (.int .i64 nb) := HF.out.col.mod.cell (fun f => f) hc2
        have hki : (j : Int) < (n : Int) := by omega
        have hki4 : (j : Int) < 40 := by omega
        clear hcg hc0 hc1 hc2 hkd hbd hnb
        go_wp2_with fail
        refine (Cut_any bd 8 (by decide) (by decide) _).mono ?_; rintro e w' ⟨rfl, rfl⟩
        obtain ⟨cb, hcb⟩ : ∃ cb, cb = cutB bd 8 := ⟨_, rfl⟩
        rw [← hcb]
        clear hcb k0 k1 k2
        obtain ⟨nn, hcase, hnn⟩ : ∃ nn : Int, ((1000 < nb ∧ Hid (nn = 1)) ∨ (¬ 1000 < nb ∧ nb < -1000 ∧ Hid (nn = 1)) ∨ (¬ 1000 < nb ∧ ¬ nb < -1000 ∧ Hid (nn = nb))) ∧ (-1000 ≤ nn ∧ nn ≤ 1000) := by
          by_cases h1 : 1000 < nb
          · exact ⟨1, .inl ⟨h1, Lib.hid rfl⟩, by omega⟩
          · by_cases h2 : nb < -1000
            · exact ⟨1, .inr (.inl ⟨h1, h2, Lib.hid rfl⟩), by omega⟩
            · exact ⟨nb, .inr (.inr ⟨h1, h2, Lib.hid rfl⟩), by omega⟩
        rcases hcase with ⟨hb1, HNN⟩ | ⟨hb1, hb2, HNN⟩ | ⟨hb1, hb2, HNN⟩
        all_goals
          go_wp2_with fail
          obtain ⟨wA, hwA⟩ : ∃ wA, wA = wr.alloc (.cells #[.int .i64 kd, .string cb, .int .i64 nn] 49) := ⟨_, rfl⟩
          have hm : Mod (fun _ => False) wr wA := hwA ▸ (Mod.refl _ _).alloc _
          have hbA := hwA ▸ allocNew wr (.cells #[.int .i64 kd, .string cb, .int .i64 nn] 49)
          rw [HNN.out] at hwA
          rw [← hwA]
          obtain ⟨pb, hpb⟩ : ∃ pb, pb = wr.heap.size := ⟨_, rfl⟩
          have k0 : wA.cell? ⟨wr.heap.size, 0, none⟩ = some (.int .i64 kd) := cellOf hbA 0
          have k1 : wA.cell? ⟨wr.heap.size, 1, none⟩ = some (.string cb) := cellOf hbA 1
          have k2 : wA.cell? ⟨wr.heap.size, 2, none⟩ = some (.int .i64 nn) := cellOf hbA 2
          rw [← hpb] at k0 k1 k2 ⊢
          have hpl : pb < wA.heap.size := hpb ▸ lt_of_block hbA
          obtain ⟨c1, hC, hr, hx, hcp⟩ : ∃ c1, Col w wA c1 ∧ SndAt wA p (fun k => c1 k = 1) s.snd ∧ RefSAt wA q (fun k => c1 k = 2) s ∧ c1 pb = 3 := ⟨_, HF.out.col.still hm 3, HF.out.snd.still HF.out.col hm (by decide) 3, HF.out.ref.still HF.out.col hm (by decide) 3, paint_born c wr wA 3 pb (by omega) hpl⟩
          have HC := Lib.hid hC
          have HR := Lib.hid hr
          have HX := Lib.hid hx
          have HP := Lib.hid hcp
          have hlj := HF.out.n
          have HFI := Lib.hid HF.out.fi
          have HOK := Lib.hid HX.out.1
          have hd1 := HOK.out.d1
          have hs1 := HOK.out.s1
          obtain ⟨_, _, hv, hblk, _⟩ := HX.out
          have k3 : wA.cell? ⟨q, 3, none⟩ = some (.int .i64 s.done) := cellOf hblk 3
          clear hm hbA hwA hC hr hx hcp hpb hb1 HNN hblk hN
          try clear hb2
          have hS : wA.drew.cell? ⟨pb, 2, none⟩ = some (.int .i64 nn) ∧ wA.drew.cell? ⟨q, 3, none⟩ = some (.int .i64 s.done) := ⟨k2, k3⟩
          refine wp_region_plan [] [(0, 0), (1, 0), (2, 0), (3, 0), (4, 1), (6, 0), (7, 1), (5, 2), (8, 2), (9, 0)] (fun w' : World => w'.cell? ⟨pb, 2, none⟩ = some (.int .i64 nn) ∧ w'.cell? ⟨q, 3, none⟩ = some (.int .i64 s.done)) (by kernel_rfl) (by kernel_rfl) (fun d _ _ _ _ h => by cases d <;> exact h) ?_
          repeat (first | (refine plan_skip rfl rfl ?_; simp only [List.getElem_toArray, List.getElem_cons_succ, List.getElem_cons_zero, Act.put, List.setIfInBounds_toArray, List.set_cons_zero, List.set_cons_succ]) | (refine plan_pass2 rfl rfl ?_; simp only [List.getElem_toArray, List.getElem_cons_succ, List.getElem_cons_zero, Act.put, List.setIfInBounds_toArray, List.set_cons_zero, List.set_cons_succ]) | (refine plan_pass3 rfl rfl ?_; simp only [List.getElem_toArray, List.getElem_cons_succ, List.getElem_cons_zero, Act.put, List.setIfInBounds_toArray, List.set_cons_zero, List.set_cons_succ]) | (refine plan_take (v := ?_) rfl rfl ?_ ?_; rotate_left; (focus (intro w0; go_simp; try with_reducible rfl)); simp only [List.getElem_toArray, List.getElem_cons_succ, List.getElem_cons_zero, Act.put, List.setIfInBounds_toArray, List.set_cons_zero, List.set_cons_succ]) | (refine plan_held (v := ?_) rfl rfl hS ?_ ?_; rotate_left; (focus (intro w0 hSw; (try dsimp only at hSw); go_split_ands; go_simp; try with_reducible rfl)); simp only [List.getElem_toArray, List.getElem_cons_succ, List.getElem_cons_zero, Act.put, List.setIfInBounds_toArray, List.set_cons_zero, List.set_cons_succ])  | (refine plan_skip1 rfl rfl hS ?_; simp only [List.getElem_toArray, List.getElem_cons_succ, List.getElem_cons_zero, Act.put, List.setIfInBounds_toArray, List.set_cons_zero, List.set_cons_succ]))
          (refine plan_do rfl rfl fun K hK => ?_; try simp only [List.getElem_toArray, List.getElem_cons_succ, List.getElem_cons_zero])
          go_simp
          refine (refAdd_any a0 s.done h00 h01 (by omega) (by omega) _).mono ?_; rintro e w' ⟨rfl, rfl⟩
          refine hK _ _ hS ?_
          clear hK K
          try simp only [List.getElem_toArray, List.getElem_cons_succ, List.getElem_cons_zero, Act.put, List.setIfInBounds_toArray, List.set_cons_zero, List.set_cons_succ]
          repeat (first | (refine plan_skip rfl rfl ?_; simp only [List.getElem_toArray, List.getElem_cons_succ, List.getElem_cons_zero, Act.put, List.setIfInBounds_toArray, List.set_cons_zero, List.set_cons_succ]) | (refine plan_pass2 rfl rfl ?_; simp only [List.getElem_toArray, List.getElem_cons_succ, List.getElem_cons_zero, Act.put, List.setIfInBounds_toArray, List.set_cons_zero, List.set_cons_succ]) | (refine plan_pass3 rfl rfl ?_; simp only [List.getElem_toArray, List.getElem_cons_succ, List.getElem_cons_zero, Act.put, List.setIfInBounds_toArray, List.set_cons_zero, List.set_cons_succ]) | (refine plan_take (v := ?_) rfl rfl ?_ ?_; rotate_left; (focus (intro w0; go_simp; try with_reducible rfl)); simp only [List.getElem_toArray, List.getElem_cons_succ, List.getElem_cons_zero, Act.put, List.setIfInBounds_toArray, List.set_cons_zero, List.set_cons_succ]) | fail )
          (refine plan_do rfl rfl fun K hK => ?_; try simp only [List.getElem_toArray, List.getElem_cons_succ, List.getElem_cons_zero])
          go_simp
          have hba := Sr.add_bd a0 s.done
          refine (refAdd_any (Sr.add a0 s.done) nn hba.1 hba.2 (by omega) (by omega) _).mono ?_; rintro e w' ⟨rfl, rfl⟩
          refine hK _ _ hS ?_
          clear hK K
          try simp only [List.getElem_toArray, List.getElem_cons_succ, List.getElem_cons_zero, Act.put, List.setIfInBounds_toArray, List.set_cons_zero, List.set_cons_succ]
          repeat (first | (refine plan_skip rfl rfl ?_; simp only [List.getElem_toArray, List.getElem_cons_succ, List.getElem_cons_zero, Act.put, List.setIfInBounds_toArray, List.set_cons_zero, List.set_cons_succ]) | (refine plan_pass2 rfl rfl ?_; simp only [List.getElem_toArray, List.getElem_cons_succ, List.getElem_cons_zero, Act.put, List.setIfInBounds_toArray, List.set_cons_zero, List.set_cons_succ]) | (refine plan_pass3 rfl rfl ?_; simp only [List.getElem_toArray, List.getElem_cons_succ, List.getElem_cons_zero, Act.put, List.setIfInBounds_toArray, List.set_cons_zero, List.set_cons_succ]) | (refine plan_take (v := ?_) rfl rfl ?_ ?_; rotate_left; (focus (intro w0; go_simp; try with_reducible rfl)); simp only [List.getElem_toArray, List.getElem_cons_succ, List.getElem_cons_zero, Act.put, List.setIfInBounds_toArray, List.set_cons_zero, List.set_cons_succ]) | fail )
          refine plan_nil ?_
          obtain ⟨ak, hak⟩ : ∃ ak, ak = Sr.add (Sr.add a0 s.done) nn := ⟨_, rfl⟩
          have hak0 : 0 ≤ ak ∧ ak < 4294967296 := hak ▸ Sr.add_bd _ _
          rw [← hak]
          clear hak hba hS k3
          go_wp2_with fail
          have hS : wA.drew.drew.cell? ⟨pb, 0, none⟩ = some (.int .i64 kd) ∧ wA.drew.drew.cell? ⟨pb, 1, none⟩ = some (.string cb) := ⟨k0, k1⟩
          clear k0 k1 k2
          have HCD : Hid (Col w wA.drew.drew c1) := Lib.hid HC.out.drew.drew
          have HRD : Hid (SndAt wA.drew.drew p (fun k => c1 k = 1) s.snd) := Lib.hid HR.out
          have HXD : Hid (RefSAt wA.drew.drew q (fun k => c1 k = 2) s) := Lib.hid HX.out
          clear HC HR HX
          rcases (show kd < 0 ∨ kd = 0 ∨ kd = 1 ∨ kd = 2 ∨ 2 < kd by omega) with hk0 | rfl | rfl | rfl | hk0
          · as_aux_lemma =>
              have hk1 : ¬ kd = 0 := by omega
              have hk2 : ¬ kd = 1 := by omega
              have hk3 : ¬ kd = 2 := by omega
              have hk4 : ¬ 2 < kd := by omega
              obtain ⟨s2, hs2e⟩ : ∃ s2, s2 = s := ⟨_, rfl⟩
              refine wp_region_plan [] [(0, 0), (1, 1), (2, 0), (3, 0), (4, 0), (5, 0), (6, 1), (8, 0), (9, 0), (10, 1), (7, 2), (11, 2), (12, 0), (13, 0), (14, 0), (15, 0), (16, 1), (17, 0), (18, 0), (19, 0), (21, 0), (20, 2), (22, 2), (23, 2), (24, 0), (25, 0), (26, 0), (27, 0), (28, 0), (29, 1), (30, 0), (31, 0), (32, 0), (34, 0), (33, 2), (35, 2), (36, 2), (37, 0), (38, 0), (39, 0), (40, 0), (41, 0), (42, 1), (43, 0), (44, 0), (45, 0), (46, 0), (48, 0), (49, 0), (47, 2), (50, 2), (51, 0), (52, 0), (53, 0)] (fun w' : World => w'.cell? ⟨pb, 0, none⟩ = some (.int .i64 kd) ∧ w'.cell? ⟨pb, 1, none⟩ = some (.string cb)) (by kernel_rfl) (by kernel_rfl) (fun d _ _ _ _ h => by cases d <;> exact h) ?_
              obtain ⟨wB, c3, hwB, hC, hr, hx, hl2, hf2⟩ : ∃ wB c, wB = wA.drew.drew ∧ Col w wB c ∧ SndAt wB p (fun k => c k = 1) s2.snd ∧ RefSAt wB q (fun k => c k = 2) s2 ∧ s2.l.length ≤ j + 1 ∧ s2.first = a0 := ⟨_, _, rfl, HCD.out, hs2e ▸ HRD.out, hs2e ▸ HXD.out, by rw [hs2e]; omega, by rw [hs2e]; exact HFI.out⟩
              rw [← hwB] at hS ⊢
              have HCE := Lib.hid hC
              have HRE := Lib.hid hr
              have HXE := Lib.hid hx
              clear hC hr hx hwB hs2e
              repeat (first | (refine plan_skip rfl rfl ?_; simp only [List.getElem_toArray, List.getElem_cons_succ, List.getElem_cons_zero, Act.put, List.setIfInBounds_toArray, List.set_cons_zero, List.set_cons_succ]) | (refine plan_pass2 rfl rfl ?_; simp only [List.getElem_toArray, List.getElem_cons_succ, List.getElem_cons_zero, Act.put, List.setIfInBounds_toArray, List.set_cons_zero, List.set_cons_succ]) | (refine plan_pass3 rfl rfl ?_; simp only [List.getElem_toArray, List.getElem_cons_succ, List.getElem_cons_zero, Act.put, List.setIfInBounds_toArray, List.set_cons_zero, List.set_cons_succ]) | (refine plan_take (v := ?_) rfl rfl ?_ ?_; rotate_left; (focus (intro w0; go_simp; try with_reducible rfl)); simp only [List.getElem_toArray, List.getElem_cons_succ, List.getElem_cons_zero, Act.put, List.setIfInBounds_toArray, List.set_cons_zero, List.set_cons_succ]) | (refine plan_held (v := ?_) rfl rfl hS ?_ ?_; rotate_left; (focus (intro w0 hSw; (try dsimp only at hSw); go_split_ands; go_simp; try with_reducible rfl)); simp only [List.getElem_toArray, List.getElem_cons_succ, List.getElem_cons_zero, Act.put, List.setIfInBounds_toArray, List.set_cons_zero, List.set_cons_succ])  | (refine plan_skip1 rfl rfl hS ?_; simp only [List.getElem_toArray, List.getElem_cons_succ, List.getElem_cons_zero, Act.put, List.setIfInBounds_toArray, List.set_cons_zero, List.set_cons_succ]))
              try simp only [beq_eq_false_iff_ne.2 hk1, beq_eq_false_iff_ne.2 hk2, beq_eq_false_iff_ne.2 hk3, decide_eq_false hk4]
              repeat (first | (refine plan_skip rfl rfl ?_; simp only [List.getElem_toArray, List.getElem_cons_succ, List.getElem_cons_zero, Act.put, List.setIfInBounds_toArray, List.set_cons_zero, List.set_cons_succ]) | (refine plan_pass2 rfl rfl ?_; simp only [List.getElem_toArray, List.getElem_cons_succ, List.getElem_cons_zero, Act.put, List.setIfInBounds_toArray, List.set_cons_zero, List.set_cons_succ]) | (refine plan_pass3 rfl rfl ?_; simp only [List.getElem_toArray, List.getElem_cons_succ, List.getElem_cons_zero, Act.put, List.setIfInBounds_toArray, List.set_cons_zero, List.set_cons_succ]) | (refine plan_take (v := ?_) rfl rfl ?_ ?_; rotate_left; (focus (intro w0; go_simp; try with_reducible rfl)); simp only [List.getElem_toArray, List.getElem_cons_succ, List.getElem_cons_zero, Act.put, List.setIfInBounds_toArray, List.set_cons_zero, List.set_cons_succ]) | (refine plan_held (v := ?_) rfl rfl hS ?_ ?_; rotate_left; (focus (intro w0 hSw; (try dsimp only at hSw); go_split_ands; go_simp; try with_reducible rfl)); simp only [List.getElem_toArray, List.getElem_cons_succ, List.getElem_cons_zero, Act.put, List.setIfInBounds_toArray, List.set_cons_zero, List.set_cons_succ])  | (refine plan_skip1 rfl rfl hS ?_; simp only [List.getElem_toArray, List.getElem_cons_succ, List.getElem_cons_zero, Act.put, List.setIfInBounds_toArray, List.set_cons_zero, List.set_cons_succ]))
              try simp only [beq_eq_false_iff_ne.2 hk1, beq_eq_false_iff_ne.2 hk2, beq_eq_false_iff_ne.2 hk3, decide_eq_false hk4]
              repeat (first | (refine plan_skip rfl rfl ?_; simp only [List.getElem_toArray, List.getElem_cons_succ, List.getElem_cons_zero, Act.put, List.setIfInBounds_toArray, List.set_cons_zero, List.set_cons_succ]) | (refine plan_pass2 rfl rfl ?_; simp only [List.getElem_toArray, List.getElem_cons_succ, List.getElem_cons_zero, Act.put, List.setIfInBounds_toArray, List.set_cons_zero, List.set_cons_succ]) | (refine plan_pass3 rfl rfl ?_; simp only [List.getElem_toArray, List.getElem_cons_succ, List.getElem_cons_zero, Act.put, List.setIfInBounds_toArray, List.set_cons_zero, List.set_cons_succ]) | (refine plan_take (v := ?_) rfl rfl ?_ ?_; rotate_left; (focus (intro w0; go_simp; try with_reducible rfl)); simp only [List.getElem_toArray, List.getElem_cons_succ, List.getElem_cons_zero, Act.put, List.setIfInBounds_toArray, List.set_cons_zero, List.set_cons_succ]) | (refine plan_held (v := ?_) rfl rfl hS ?_ ?_; rotate_left; (focus (intro w0 hSw; (try dsimp only at hSw); go_split_ands; go_simp; try with_reducible rfl)); simp only [List.getElem_toArray, List.getElem_cons_succ, List.getElem_cons_zero, Act.put, List.setIfInBounds_toArray, List.set_cons_zero, List.set_cons_succ])  | (refine plan_skip1 rfl rfl hS ?_; simp only [List.getElem_toArray, List.getElem_cons_succ, List.getElem_cons_zero, Act.put, List.setIfInBounds_toArray, List.set_cons_zero, List.set_cons_succ]))
              try simp only [beq_eq_false_iff_ne.2 hk1, beq_eq_false_iff_ne.2 hk2, beq_eq_false_iff_ne.2 hk3, decide_eq_false hk4]
              repeat (first | (refine plan_skip rfl rfl ?_; simp only [List.getElem_toArray, List.getElem_cons_succ, List.getElem_cons_zero, Act.put, List.setIfInBounds_toArray, List.set_cons_zero, List.set_cons_succ]) | (refine plan_pass2 rfl rfl ?_; simp only [List.getElem_toArray, List.getElem_cons_succ, List.getElem_cons_zero, Act.put, List.setIfInBounds_toArray, List.set_cons_zero, List.set_cons_succ]) | (refine plan_pass3 rfl rfl ?_; simp only [List.getElem_toArray, List.getElem_cons_succ, List.getElem_cons_zero, Act.put, List.setIfInBounds_toArray, List.set_cons_zero, List.set_cons_succ]) | (refine plan_take (v := ?_) rfl rfl ?_ ?_; rotate_left; (focus (intro w0; go_simp; try with_reducible rfl)); simp only [List.getElem_toArray, List.getElem_cons_succ, List.getElem_cons_zero, Act.put, List.setIfInBounds_toArray, List.set_cons_zero, List.set_cons_succ]) | (refine plan_held (v := ?_) rfl rfl hS ?_ ?_; rotate_left; (focus (intro w0 hSw; (try dsimp only at hSw); go_split_ands; go_simp; try with_reducible rfl)); simp only [List.getElem_toArray, List.getElem_cons_succ, List.getElem_cons_zero, Act.put, List.setIfInBounds_toArray, List.set_cons_zero, List.set_cons_succ])  | (refine plan_skip1 rfl rfl hS ?_; simp only [List.getElem_toArray, List.getElem_cons_succ, List.getElem_cons_zero, Act.put, List.setIfInBounds_toArray, List.set_cons_zero, List.set_cons_succ]))
              try simp only [beq_eq_false_iff_ne.2 hk1, beq_eq_false_iff_ne.2 hk2, beq_eq_false_iff_ne.2 hk3, decide_eq_false hk4]
              repeat (first | (refine plan_skip rfl rfl ?_; simp only [List.getElem_toArray, List.getElem_cons_succ, List.getElem_cons_zero, Act.put, List.setIfInBounds_toArray, List.set_cons_zero, List.set_cons_succ]) | (refine plan_pass2 rfl rfl ?_; simp only [List.getElem_toArray, List.getElem_cons_succ, List.getElem_cons_zero, Act.put, List.setIfInBounds_toArray, List.set_cons_zero, List.set_cons_succ]) | (refine plan_pass3 rfl rfl ?_; simp only [List.getElem_toArray, List.getElem_cons_succ, List.getElem_cons_zero, Act.put, List.setIfInBounds_toArray, List.set_cons_zero, List.set_cons_succ]) | (refine plan_take (v := ?_) rfl rfl ?_ ?_; rotate_left; (focus (intro w0; go_simp; try with_reducible rfl)); simp only [List.getElem_toArray, List.getElem_cons_succ, List.getElem_cons_zero, Act.put, List.setIfInBounds_toArray, List.set_cons_zero, List.set_cons_succ]) | (refine plan_held (v := ?_) rfl rfl hS ?_ ?_; rotate_left; (focus (intro w0 hSw; (try dsimp only at hSw); go_split_ands; go_simp; try with_reducible rfl)); simp only [List.getElem_toArray, List.getElem_cons_succ, List.getElem_cons_zero, Act.put, List.setIfInBounds_toArray, List.set_cons_zero, List.set_cons_succ])  | (refine plan_skip1 rfl rfl hS ?_; simp only [List.getElem_toArray, List.getElem_cons_succ, List.getElem_cons_zero, Act.put, List.setIfInBounds_toArray, List.set_cons_zero, List.set_cons_succ]))
              refine plan_nil ?_
              go_wp2_with fail
              try clear HCD
              try clear HRD
              try clear HXD
              try clear HP
              obtain ⟨_, _, hv12, hblk12, hrow12⟩ := HXE.out
              obtain ⟨ha12, hcap12, rfl, _, _, _⟩ := hrow12.form
              have kl : wB.drew.cell? ⟨q, 2, none⟩ = some (.slice ha12 s2.l.length hcap12) := cellOf hblk12 2
              have kd12 : wB.drew.cell? ⟨q, 3, none⟩ = some (.int .i64 s2.done) := cellOf hblk12 3
              clear hblk12 hrow12
              have HOK2 := Lib.hid HXE.out.1
              have hd2 := HOK2.out.d1
              have hs2 := HOK2.out.s1
              have hbl : s2.snd.bodies.length = s2.l.length - s2.done := by unfold RefS.snd; simp
              have HBL := Lib.hid hbl
              have hsub : IntKind.i64.wrap ((s2.l.length : Int) - (s2.done : Int)) = ((s2.l.length - s2.done : Nat) : Int) := by rw [IntWalk.i64_in _ (by omega)]; omega
              clear hbl
              refine wp_region_plan [] [(0, 0), (2, 0), (3, 0), (4, 0), (5, 1), (6, 0), (7, 0), (8, 0), (9, 0), (10, 1), (11, 0), (1, 2), (12, 0), (13, 0), (14, 0), (16, 0), (17, 0), (18, 0), (19, 0), (20, 1), (15, 2), (21, 2), (22, 0), (23, 0)] (fun w' : World => w'.cell? ⟨q, 2, none⟩ = some (.slice ha12 s2.l.length hcap12) ∧ w'.cell? ⟨q, 3, none⟩ = some (.int .i64 s2.done)) (by kernel_rfl) (by kernel_rfl) (fun d _ _ _ _ h => by cases d <;> exact h) ?_
              repeat (first | (refine plan_skip rfl rfl ?_; simp only [List.getElem_toArray, List.getElem_cons_succ, List.getElem_cons_zero, Act.put, List.setIfInBounds_toArray, List.set_cons_zero, List.set_cons_succ]) | (refine plan_pass2 rfl rfl ?_; simp only [List.getElem_toArray, List.getElem_cons_succ, List.getElem_cons_zero, Act.put, List.setIfInBounds_toArray, List.set_cons_zero, List.set_cons_succ]) | (refine plan_pass3 rfl rfl ?_; simp only [List.getElem_toArray, List.getElem_cons_succ, List.getElem_cons_zero, Act.put, List.setIfInBounds_toArray, List.set_cons_zero, List.set_cons_succ]) | (refine plan_take (v := ?_) rfl rfl ?_ ?_; rotate_left; (focus (intro w0; go_simp; try with_reducible rfl)); simp only [List.getElem_toArray, List.getElem_cons_succ, List.getElem_cons_zero, Act.put, List.setIfInBounds_toArray, List.set_cons_zero, List.set_cons_succ]) | (refine plan_held (v := ?_) rfl rfl ⟨kl, kd12⟩ ?_ ?_; rotate_left; (focus (intro w0 hSw; (try dsimp only at hSw); go_split_ands; go_simp; try with_reducible rfl)); simp only [List.getElem_toArray, List.getElem_cons_succ, List.getElem_cons_zero, Act.put, List.setIfInBounds_toArray, List.set_cons_zero, List.set_cons_succ])  | (refine plan_skip1 rfl rfl ⟨kl, kd12⟩ ?_; simp only [List.getElem_toArray, List.getElem_cons_succ, List.getElem_cons_zero, Act.put, List.setIfInBounds_toArray, List.set_cons_zero, List.set_cons_succ]))
              (refine plan_do rfl rfl fun K hK => ?_; try simp only [List.getElem_toArray, List.getElem_cons_succ, List.getElem_cons_zero])
              go_simp
              refine (Open_any p _ s2.snd _ HRE.out.drewS).mono ?_; rintro e w' ⟨rfl, rfl⟩
              refine hK _ _ ⟨kl, kd12⟩ ?_
              clear hK K
              try simp only [List.getElem_toArray, List.getElem_cons_succ, List.getElem_cons_zero, Act.put, List.setIfInBounds_toArray, List.set_cons_zero, List.set_cons_succ]
              rw [HBL.out]
              try simp only [hsub]
              repeat (first | (refine plan_skip rfl rfl ?_; simp only [List.getElem_toArray, List.getElem_cons_succ, List.getElem_cons_zero, Act.put, List.setIfInBounds_toArray, List.set_cons_zero, List.set_cons_succ]) | (refine plan_pass2 rfl rfl ?_; simp only [List.getElem_toArray, List.getElem_cons_succ, List.getElem_cons_zero, Act.put, List.setIfInBounds_toArray, List.set_cons_zero, List.set_cons_succ]) | (refine plan_pass3 rfl rfl ?_; simp only [List.getElem_toArray, List.getElem_cons_succ, List.getElem_cons_zero, Act.put, List.setIfInBounds_toArray, List.set_cons_zero, List.set_cons_succ]) | (refine plan_take (v := ?_) rfl rfl ?_ ?_; rotate_left; (focus (intro w0; go_simp; try with_reducible rfl)); simp only [List.getElem_toArray, List.getElem_cons_succ, List.getElem_cons_zero, Act.put, List.setIfInBounds_toArray, List.set_cons_zero, List.set_cons_succ]) | (refine plan_held (v := ?_) rfl rfl ⟨kl, kd12⟩ ?_ ?_; rotate_left; (focus (intro w0 hSw; (try dsimp only at hSw); go_split_ands; go_simp; try with_reducible rfl)); simp only [List.getElem_toArray, List.getElem_cons_succ, List.getElem_cons_zero, Act.put, List.setIfInBounds_toArray, List.set_cons_zero, List.set_cons_succ])  | (refine plan_skip1 rfl rfl ⟨kl, kd12⟩ ?_; simp only [List.getElem_toArray, List.getElem_cons_succ, List.getElem_cons_zero, Act.put, List.setIfInBounds_toArray, List.set_cons_zero, List.set_cons_succ]))
              (refine plan_do rfl rfl fun K hK => ?_; try simp only [List.getElem_toArray, List.getElem_cons_succ, List.getElem_cons_zero])
              go_simp
              refine (Base_any p _ s2.snd _ HRE.out.drewS).mono ?_; rintro e w' ⟨rfl, rfl⟩
              refine hK _ _ ⟨kl, kd12⟩ ?_
              clear hK K
              try simp only [List.getElem_toArray, List.getElem_cons_succ, List.getElem_cons_zero, Act.put, List.setIfInBounds_toArray, List.set_cons_zero, List.set_cons_succ]
              have hbs : Hid (s2.snd.base = Sr.add a0 s2.done) := Lib.hid (by unfold RefS.snd; rw [hf2])
              rw [hbs.out]
              repeat (first | (refine plan_skip rfl rfl ?_; simp only [List.getElem_toArray, List.getElem_cons_succ, List.getElem_cons_zero, Act.put, List.setIfInBounds_toArray, List.set_cons_zero, List.set_cons_succ]) | (refine plan_pass2 rfl rfl ?_; simp only [List.getElem_toArray, List.getElem_cons_succ, List.getElem_cons_zero, Act.put, List.setIfInBounds_toArray, List.set_cons_zero, List.set_cons_succ]) | (refine plan_pass3 rfl rfl ?_; simp only [List.getElem_toArray, List.getElem_cons_succ, List.getElem_cons_zero, Act.put, List.setIfInBounds_toArray, List.set_cons_zero, List.set_cons_succ]) | (refine plan_take (v := ?_) rfl rfl ?_ ?_; rotate_left; (focus (intro w0; go_simp; try with_reducible rfl)); simp only [List.getElem_toArray, List.getElem_cons_succ, List.getElem_cons_zero, Act.put, List.setIfInBounds_toArray, List.set_cons_zero, List.set_cons_succ]) | fail )
              (refine plan_do rfl rfl fun K hK => ?_; try simp only [List.getElem_toArray, List.getElem_cons_succ, List.getElem_cons_zero])
              go_simp
              refine (refAdd_any a0 s2.done h00 h01 (by omega) (by omega) _).mono ?_; rintro e w' ⟨rfl, rfl⟩
              refine hK _ _ ⟨kl, kd12⟩ ?_
              clear hK K
              try simp only [List.getElem_toArray, List.getElem_cons_succ, List.getElem_cons_zero, Act.put, List.setIfInBounds_toArray, List.set_cons_zero, List.set_cons_succ]
              repeat (first | (refine plan_skip rfl rfl ?_; simp only [List.getElem_toArray, List.getElem_cons_succ, List.getElem_cons_zero, Act.put, List.setIfInBounds_toArray, List.set_cons_zero, List.set_cons_succ]) | (refine plan_pass2 rfl rfl ?_; simp only [List.getElem_toArray, List.getElem_cons_succ, List.getElem_cons_zero, Act.put, List.setIfInBounds_toArray, List.set_cons_zero, List.set_cons_succ]) | (refine plan_pass3 rfl rfl ?_; simp only [List.getElem_toArray, List.getElem_cons_succ, List.getElem_cons_zero, Act.put, List.setIfInBounds_toArray, List.set_cons_zero, List.set_cons_succ]) | (refine plan_take (v := ?_) rfl rfl ?_ ?_; rotate_left; (focus (intro w0; go_simp; try with_reducible rfl)); simp only [List.getElem_toArray, List.getElem_cons_succ, List.getElem_cons_zero, Act.put, List.setIfInBounds_toArray, List.set_cons_zero, List.set_cons_succ]) | fail )
              refine plan_nil ?_
              have HL2 := Lib.hid hl2
              have HF2 := Lib.hid hf2
              clear kl kd12 hsub hd2 hs2 hl2 hf2
              go_wp2
              go_roundw
              case rel => exact ⟨j + 1, _, s2, by omega, by omega, by go_num, HCE.out.drew, HRE.out.drewS, HXE.out, HL2.out, HF2.out⟩
              case measure => simp [intOf]; omega
          · as_aux_lemma =>
              refine wp_region_plan [] [(0, 0), (1, 1), (2, 0), (3, 0), (4, 0), (5, 0), (6, 1), (8, 0), (9, 0), (10, 1), (7, 2), (11, 2), (12, 0), (13, 0), (14, 0), (15, 0), (16, 1), (17, 0), (18, 0), (19, 0), (21, 0), (20, 2), (22, 2), (23, 2), (24, 0), (25, 0), (26, 0), (27, 0), (28, 0), (29, 1), (30, 0), (31, 0), (32, 0), (34, 0), (33, 2), (35, 2), (36, 2), (37, 0), (38, 0), (39, 0), (40, 0), (41, 0), (42, 1), (43, 0), (44, 0), (45, 0), (46, 0), (48, 0), (49, 0), (47, 2), (50, 2), (51, 0), (52, 0), (53, 0)] (fun w' : World => w'.cell? ⟨pb, 0, none⟩ = some (.int .i64 0) ∧ w'.cell? ⟨pb, 1, none⟩ = some (.string cb)) (by kernel_rfl) (by kernel_rfl) (fun d _ _ _ _ h => by cases d <;> exact h) ?_
              repeat (first | (refine plan_skip rfl rfl ?_; simp only [List.getElem_toArray, List.getElem_cons_succ, List.getElem_cons_zero, Act.put, List.setIfInBounds_toArray, List.set_cons_zero, List.set_cons_succ]) | (refine plan_pass2 rfl rfl ?_; simp only [List.getElem_toArray, List.getElem_cons_succ, List.getElem_cons_zero, Act.put, List.setIfInBounds_toArray, List.set_cons_zero, List.set_cons_succ]) | (refine plan_pass3 rfl rfl ?_; simp only [List.getElem_toArray, List.getElem_cons_succ, List.getElem_cons_zero, Act.put, List.setIfInBounds_toArray, List.set_cons_zero, List.set_cons_succ]) | (refine plan_take (v := ?_) rfl rfl ?_ ?_; rotate_left; (focus (intro w0; go_simp; try with_reducible rfl)); simp only [List.getElem_toArray, List.getElem_cons_succ, List.getElem_cons_zero, Act.put, List.setIfInBounds_toArray, List.set_cons_zero, List.set_cons_succ]) | (refine plan_held (v := ?_) rfl rfl hS ?_ ?_; rotate_left; (focus (intro w0 hSw; (try dsimp only at hSw); go_split_ands; go_simp; try with_reducible rfl)); simp only [List.getElem_toArray, List.getElem_cons_succ, List.getElem_cons_zero, Act.put, List.setIfInBounds_toArray, List.set_cons_zero, List.set_cons_succ])  | (refine plan_skip1 rfl rfl hS ?_; simp only [List.getElem_toArray, List.getElem_cons_succ, List.getElem_cons_zero, Act.put, List.setIfInBounds_toArray, List.set_cons_zero, List.set_cons_succ]))
              have HFU : Hid (s.snd.full = s.free) := Lib.hid (snd_full HOK.out)
              (refine plan_do rfl rfl fun K hK => ?_; try simp only [List.getElem_toArray, List.getElem_cons_succ, List.getElem_cons_zero])
              go_simp
              refine (Push_any p _ s.snd cb _ HRD.out).mono ?_; rintro e w3 ⟨rfl, hr, hm⟩
              have hn1 : ¬ c1 pb = 1 := by rw [HP.out]; decide
              have hS3 : w3.cell? ⟨pb, 0, none⟩ = some (.int .i64 0) ∧ w3.cell? ⟨pb, 1, none⟩ = some (.string cb) := ⟨hm.cell hn1 hS.1, hm.cell hn1 hS.2⟩
              refine hK _ _ hS3 ?_
              clear hK K hS
              try simp only [List.getElem_toArray, List.getElem_cons_succ, List.getElem_cons_zero, Act.put, List.setIfInBounds_toArray, List.set_cons_zero, List.set_cons_succ]
              rw [HFU.out]
              obtain ⟨c2, hC, hr, hx, hcp⟩ : ∃ c, Col w w3 c ∧ SndAt w3 p (fun k => c k = 1) (s.snd.push cb) ∧ RefSAt w3 q (fun k => c k = 2) s ∧ c pb = 3 := ⟨_, HCD.out.step hm (by decide) 1, hr.mine HCD.out (by decide), HXD.out.away HCD.out hm (by decide) (by decide) 1, paint_away HCD.out (by decide) 1 pb HP.out (Nat.lt_of_lt_of_le hpl hm.size)⟩
              clear HCD HRD HXD HP hn1 hm
              have HCD := Lib.hid hC
              have HRD := Lib.hid hr
              have HXD := Lib.hid hx
              have HP := Lib.hid hcp
              clear hC hr hx hcp
              (refine plan_do rfl rfl fun K hK => ?_; try simp only [List.getElem_toArray, List.getElem_cons_succ, List.getElem_cons_zero])
              go_simp
              refine (RefPush_any q _ s cb _ HXD.out (by omega)).mono ?_; rintro e w4 ⟨rfl, hx, hm⟩
              have hn2 : ¬ c2 pb = 2 := by rw [HP.out]; decide
              have hS4 : w4.cell? ⟨pb, 0, none⟩ = some (.int .i64 0) ∧ w4.cell? ⟨pb, 1, none⟩ = some (.string cb) := ⟨hm.cell hn2 hS3.1, hm.cell hn2 hS3.2⟩
              refine hK _ _ hS4 ?_
              clear hK K hS3
              try simp only [List.getElem_toArray, List.getElem_cons_succ, List.getElem_cons_zero, Act.put, List.setIfInBounds_toArray, List.set_cons_zero, List.set_cons_succ]
              obtain ⟨s2, hs2e⟩ : ∃ s2, s2 = s.push cb := ⟨_, rfl⟩
              obtain ⟨wB, c3, hwB, hC, hr, hx, hl2, hf2⟩ : ∃ wB c, wB = w4 ∧ Col w wB c ∧ SndAt wB p (fun k => c k = 1) s2.snd ∧ RefSAt wB q (fun k => c k = 2) s2 ∧ s2.l.length ≤ j + 1 ∧ s2.first = a0 := ⟨w4, _, rfl, HCD.out.step hm (by decide) 2, hs2e ▸ snd_push HOK.out cb ▸ HRD.out.away HCD.out hm (by decide) (by decide) 2, hs2e ▸ hx.mine HCD.out (by decide), by have := push_len s cb; rw [hs2e]; omega, by rw [hs2e, push_first]; exact HFI.out⟩
              rw [← hwB] at hS4 ⊢
              have HCE := Lib.hid hC
              have HRE := Lib.hid hr
              have HXE := Lib.hid hx
              generalize s.free = bf
              clear hC hr hx hs2e hwB hm hn2 HFU
              repeat (first | (refine plan_skip rfl rfl ?_; simp only [List.getElem_toArray, List.getElem_cons_succ, List.getElem_cons_zero, Act.put, List.setIfInBounds_toArray, List.set_cons_zero, List.set_cons_succ]) | (refine plan_pass2 rfl rfl ?_; simp only [List.getElem_toArray, List.getElem_cons_succ, List.getElem_cons_zero, Act.put, List.setIfInBounds_toArray, List.set_cons_zero, List.set_cons_succ]) | (refine plan_pass3 rfl rfl ?_; simp only [List.getElem_toArray, List.getElem_cons_succ, List.getElem_cons_zero, Act.put, List.setIfInBounds_toArray, List.set_cons_zero, List.set_cons_succ]) | (refine plan_take (v := ?_) rfl rfl ?_ ?_; rotate_left; (focus (intro w0; go_simp; try with_reducible rfl)); simp only [List.getElem_toArray, List.getElem_cons_succ, List.getElem_cons_zero, Act.put, List.setIfInBounds_toArray, List.set_cons_zero, List.set_cons_succ]) | (refine plan_held (v := ?_) rfl rfl hS4 ?_ ?_; rotate_left; (focus (intro w0 hSw; (try dsimp only at hSw); go_split_ands; go_simp; try with_reducible rfl)); simp only [List.getElem_toArray, List.getElem_cons_succ, List.getElem_cons_zero, Act.put, List.setIfInBounds_toArray, List.set_cons_zero, List.set_cons_succ])  | (refine plan_skip1 rfl rfl hS4 ?_; simp only [List.getElem_toArray, List.getElem_cons_succ, List.getElem_cons_zero, Act.put, List.setIfInBounds_toArray, List.set_cons_zero, List.set_cons_succ]))
              refine plan_nil ?_
              go_wp2_with fail
              try clear HCD
              try clear HRD
              try clear HXD
              try clear HP
              obtain ⟨_, _, hv12, hblk12, hrow12⟩ := HXE.out
              obtain ⟨ha12, hcap12, rfl, _, _, _⟩ := hrow12.form
              have kl : wB.drew.cell? ⟨q, 2, none⟩ = some (.slice ha12 s2.l.length hcap12) := cellOf hblk12 2
              have kd12 : wB.drew.cell? ⟨q, 3, none⟩ = some (.int .i64 s2.done) := cellOf hblk12 3
              clear hblk12 hrow12
              have HOK2 := Lib.hid HXE.out.1
              have hd2 := HOK2.out.d1
              have hs2 := HOK2.out.s1
              have hbl : s2.snd.bodies.length = s2.l.length - s2.done := by unfold RefS.snd; simp
              have HBL := Lib.hid hbl
              have hsub : IntKind.i64.wrap ((s2.l.length : Int) - (s2.done : Int)) = ((s2.l.length - s2.done : Nat) : Int) := by rw [IntWalk.i64_in _ (by omega)]; omega
              clear hbl
              refine wp_region_plan [] [(0, 0), (2, 0), (3, 0), (4, 0), (5, 1), (6, 0), (7, 0), (8, 0), (9, 0), (10, 1), (11, 0), (1, 2), (12, 0), (13, 0), (14, 0), (16, 0), (17, 0), (18, 0), (19, 0), (20, 1), (15, 2), (21, 2), (22, 0), (23, 0)] (fun w' : World => w'.cell? ⟨q, 2, none⟩ = some (.slice ha12 s2.l.length hcap12) ∧ w'.cell? ⟨q, 3, none⟩ = some (.int .i64 s2.done)) (by kernel_rfl) (by kernel_rfl) (fun d _ _ _ _ h => by cases d <;> exact h) ?_
              repeat (first | (refine plan_skip rfl rfl ?_; simp only [List.getElem_toArray, List.getElem_cons_succ, List.getElem_cons_zero, Act.put, List.setIfInBounds_toArray, List.set_cons_zero, List.set_cons_succ]) | (refine plan_pass2 rfl rfl ?_; simp only [List.getElem_toArray, List.getElem_cons_succ, List.getElem_cons_zero, Act.put, List.setIfInBounds_toArray, List.set_cons_zero, List.set_cons_succ]) | (refine plan_pass3 rfl rfl ?_; simp only [List.getElem_toArray, List.getElem_cons_succ, List.getElem_cons_zero, Act.put, List.setIfInBounds_toArray, List.set_cons_zero, List.set_cons_succ]) | (refine plan_take (v := ?_) rfl rfl ?_ ?_; rotate_left; (focus (intro w0; go_simp; try with_reducible rfl)); simp only [List.getElem_toArray, List.getElem_cons_succ, List.getElem_cons_zero, Act.put, List.setIfInBounds_toArray, List.set_cons_zero, List.set_cons_succ]) | (refine plan_held (v := ?_) rfl rfl ⟨kl, kd12⟩ ?_ ?_; rotate_left; (focus (intro w0 hSw; (try dsimp only at hSw); go_split_ands; go_simp; try with_reducible rfl)); simp only [List.getElem_toArray, List.getElem_cons_succ, List.getElem_cons_zero, Act.put, List.setIfInBounds_toArray, List.set_cons_zero, List.set_cons_succ])  | (refine plan_skip1 rfl rfl ⟨kl, kd12⟩ ?_; simp only [List.getElem_toArray, List.getElem_cons_succ, List.getElem_cons_zero, Act.put, List.setIfInBounds_toArray, List.set_cons_zero, List.set_cons_succ]))
              (refine plan_do rfl rfl fun K hK => ?_; try simp only [List.getElem_toArray, List.getElem_cons_succ, List.getElem_cons_zero])
              go_simp
              refine (Open_any p _ s2.snd _ HRE.out.drewS).mono ?_; rintro e w' ⟨rfl, rfl⟩
              refine hK _ _ ⟨kl, kd12⟩ ?_
              clear hK K
              try simp only [List.getElem_toArray, List.getElem_cons_succ, List.getElem_cons_zero, Act.put, List.setIfInBounds_toArray, List.set_cons_zero, List.set_cons_succ]
              rw [HBL.out]
              try simp only [hsub]
              repeat (first | (refine plan_skip rfl rfl ?_; simp only [List.getElem_toArray, List.getElem_cons_succ, List.getElem_cons_zero, Act.put, List.setIfInBounds_toArray, List.set_cons_zero, List.set_cons_succ]) | (refine plan_pass2 rfl rfl ?_; simp only [List.getElem_toArray, List.getElem_cons_succ, List.getElem_cons_zero, Act.put, List.setIfInBounds_toArray, List.set_cons_zero, List.set_cons_succ]) | (refine plan_pass3 rfl rfl ?_; simp only [List.getElem_toArray, List.getElem_cons_succ, List.getElem_cons_zero, Act.put, List.setIfInBounds_toArray, List.set_cons_zero, List.set_cons_succ]) | (refine plan_take (v := ?_) rfl rfl ?_ ?_; rotate_left; (focus (intro w0; go_simp; try with_reducible rfl)); simp only [List.getElem_toArray, List.getElem_cons_succ, List.getElem_cons_zero, Act.put, List.setIfInBounds_toArray, List.set_cons_zero, List.set_cons_succ]) | (refine plan_held (v := ?_) rfl rfl ⟨kl, kd12⟩ ?_ ?_; rotate_left; (focus (intro w0 hSw; (try dsimp only at hSw); go_split_ands; go_simp; try with_reducible rfl)); simp only [List.getElem_toArray, List.getElem_cons_succ, List.getElem_cons_zero, Act.put, List.setIfInBounds_toArray, List.set_cons_zero, List.set_cons_succ])  | (refine plan_skip1 rfl rfl ⟨kl, kd12⟩ ?_; simp only [List.getElem_toArray, List.getElem_cons_succ, List.getElem_cons_zero, Act.put, List.setIfInBounds_toArray, List.set_cons_zero, List.set_cons_succ]))
              (refine plan_do rfl rfl fun K hK => ?_; try simp only [List.getElem_toArray, List.getElem_cons_succ, List.getElem_cons_zero])
              go_simp
              refine (Base_any p _ s2.snd _ HRE.out.drewS).mono ?_; rintro e w' ⟨rfl, rfl⟩
              refine hK _ _ ⟨kl, kd12⟩ ?_
              clear hK K
              try simp only [List.getElem_toArray, List.getElem_cons_succ, List.getElem_cons_zero, Act.put, List.setIfInBounds_toArray, List.set_cons_zero, List.set_cons_succ]
              have hbs : Hid (s2.snd.base = Sr.add a0 s2.done) := Lib.hid (by unfold RefS.snd; rw [hf2])
              rw [hbs.out]
              repeat (first | (refine plan_skip rfl rfl ?_; simp only [List.getElem_toArray, List.getElem_cons_succ, List.getElem_cons_zero, Act.put, List.setIfInBounds_toArray, List.set_cons_zero, List.set_cons_succ]) | (refine plan_pass2 rfl rfl ?_; simp only [List.getElem_toArray, List.getElem_cons_succ, List.getElem_cons_zero, Act.put, List.setIfInBounds_toArray, List.set_cons_zero, List.set_cons_succ]) | (refine plan_pass3 rfl rfl ?_; simp only [List.getElem_toArray, List.getElem_cons_succ, List.getElem_cons_zero, Act.put, List.setIfInBounds_toArray, List.set_cons_zero, List.set_cons_succ]) | (refine plan_take (v := ?_) rfl rfl ?_ ?_; rotate_left; (focus (intro w0; go_simp; try with_reducible rfl)); simp only [List.getElem_toArray, List.getElem_cons_succ, List.getElem_cons_zero, Act.put, List.setIfInBounds_toArray, List.set_cons_zero, List.set_cons_succ]) | fail )
              (refine plan_do rfl rfl fun K hK => ?_; try simp only [List.getElem_toArray, List.getElem_cons_succ, List.getElem_cons_zero])
              go_simp
              refine (refAdd_any a0 s2.done h00 h01 (by omega) (by omega) _).mono ?_; rintro e w' ⟨rfl, rfl⟩
              refine hK _ _ ⟨kl, kd12⟩ ?_
              clear hK K
              try simp only [List.getElem_toArray, List.getElem_cons_succ, List.getElem_cons_zero, Act.put, List.setIfInBounds_toArray, List.set_cons_zero, List.set_cons_succ]
              repeat (first | (refine plan_skip rfl rfl ?_; simp only [List.getElem_toArray, List.getElem_cons_succ, List.getElem_cons_zero, Act.put, List.setIfInBounds_toArray, List.set_cons_zero, List.set_cons_succ]) | (refine plan_pass2 rfl rfl ?_; simp only [List.getElem_toArray, List.getElem_cons_succ, List.getElem_cons_zero, Act.put, List.setIfInBounds_toArray, List.set_cons_zero, List.set_cons_succ]) | (refine plan_pass3 rfl rfl ?_; simp only [List.getElem_toArray, List.getElem_cons_succ, List.getElem_cons_zero, Act.put, List.setIfInBounds_toArray, List.set_cons_zero, List.set_cons_succ]) | (refine plan_take (v := ?_) rfl rfl ?_ ?_; rotate_left; (focus (intro w0; go_simp; try with_reducible rfl)); simp only [List.getElem_toArray, List.getElem_cons_succ, List.getElem_cons_zero, Act.put, List.setIfInBounds_toArray, List.set_cons_zero, List.set_cons_succ]) | fail )
              refine plan_nil ?_
              have HL2 := Lib.hid hl2
              have HF2 := Lib.hid hf2
              clear kl kd12 hsub hd2 hs2 hl2 hf2
              go_wp2
              go_roundw
              case rel => exact ⟨j + 1, _, s2, by omega, by omega, by go_num, HCE.out.drew, HRE.out.drewS, HXE.out, HL2.out, HF2.out⟩
              case measure => simp [intOf]; omega
          · as_aux_lemma =>
              obtain ⟨s2, hs2e⟩ : ∃ s2, s2 = s.send := ⟨_, rfl⟩
              obtain ⟨o1, ho1⟩ : ∃ o1, o1 = s.news := ⟨_, rfl⟩
              have HSE := Lib.hid hs2e
              have HOE := Lib.hid ho1
              clear hs2e ho1
              refine wp_region_plan [] [(0, 0), (1, 1), (2, 0), (3, 0), (4, 0), (5, 0), (6, 1), (8, 0), (9, 0), (10, 1), (7, 2), (11, 2), (12, 0), (13, 0), (14, 0), (15, 0), (16, 1), (17, 0), (18, 0), (19, 0), (21, 0), (20, 2), (22, 2), (23, 2), (24, 0), (25, 0), (26, 0), (27, 0), (28, 0), (29, 1), (30, 0), (31, 0), (32, 0), (34, 0), (33, 2), (35, 2), (36, 2), (37, 0), (38, 0), (39, 0), (40, 0), (41, 0), (42, 1), (43, 0), (44, 0), (45, 0), (46, 0), (48, 0), (49, 0), (47, 2), (50, 2), (51, 0), (52, 0), (53, 0)] (fun w' : World => w'.cell? ⟨pb, 0, none⟩ = some (.int .i64 1) ∧ w'.cell? ⟨pb, 1, none⟩ = some (.string cb)) (by kernel_rfl) (by kernel_rfl) (fun d _ _ _ _ h => by cases d <;> exact h) ?_
              repeat (first | (refine plan_skip rfl rfl ?_; simp only [List.getElem_toArray, List.getElem_cons_succ, List.getElem_cons_zero, Act.put, List.setIfInBounds_toArray, List.set_cons_zero, List.set_cons_succ]) | (refine plan_pass2 rfl rfl ?_; simp only [List.getElem_toArray, List.getElem_cons_succ, List.getElem_cons_zero, Act.put, List.setIfInBounds_toArray, List.set_cons_zero, List.set_cons_succ]) | (refine plan_pass3 rfl rfl ?_; simp only [List.getElem_toArray, List.getElem_cons_succ, List.getElem_cons_zero, Act.put, List.setIfInBounds_toArray, List.set_cons_zero, List.set_cons_succ]) | (refine plan_take (v := ?_) rfl rfl ?_ ?_; rotate_left; (focus (intro w0; go_simp; try with_reducible rfl)); simp only [List.getElem_toArray, List.getElem_cons_succ, List.getElem_cons_zero, Act.put, List.setIfInBounds_toArray, List.set_cons_zero, List.set_cons_succ]) | (refine plan_held (v := ?_) rfl rfl hS ?_ ?_; rotate_left; (focus (intro w0 hSw; (try dsimp only at hSw); go_split_ands; go_simp; try with_reducible rfl)); simp only [List.getElem_toArray, List.getElem_cons_succ, List.getElem_cons_zero, Act.put, List.setIfInBounds_toArray, List.set_cons_zero, List.set_cons_succ])  | (refine plan_skip1 rfl rfl hS ?_; simp only [List.getElem_toArray, List.getElem_cons_succ, List.getElem_cons_zero, Act.put, List.setIfInBounds_toArray, List.set_cons_zero, List.set_cons_succ]))
              (refine plan_do rfl rfl fun K hK => ?_; try simp only [List.getElem_toArray, List.getElem_cons_succ, List.getElem_cons_zero])
              go_simp
              refine (Send_any p _ s.snd _ HRD.out).mono ?_; rintro e w3 ⟨v1, rfl, hv1, hr, hm⟩
              have hn1 : ¬ c1 pb = 1 := by rw [HP.out]; decide
              have hS3 : w3.cell? ⟨pb, 0, none⟩ = some (.int .i64 1) ∧ w3.cell? ⟨pb, 1, none⟩ = some (.string cb) := ⟨hm.cell hn1 hS.1, hm.cell hn1 hS.2⟩
              refine hK _ _ hS3 ?_
              clear hK K hS
              try simp only [List.getElem_toArray, List.getElem_cons_succ, List.getElem_cons_zero, Act.put, List.setIfInBounds_toArray, List.set_cons_zero, List.set_cons_succ]
              rw [snd_news HOK.out, ← HOE.out] at hv1
              rw [snd_send HOK.out, ← HSE.out] at hr
              obtain ⟨c2, hC, hr, hx, hv1, hcp⟩ : ∃ c, Col w w3 c ∧ SndAt w3 p (fun k => c k = 1) s2.snd ∧ RefSAt w3 q (fun k => c k = 2) s ∧ Row w3 (fun k => c k = 4) 36 2 v1 o1.length (Pkt.vals o1) ∧ c pb = 3 := ⟨_, HCD.out.step hm (by decide) 4, hr.stay HCD.out (by decide) 4, HXD.out.away HCD.out hm (by decide) (by decide) 4, hv1.born c1 4, paint_away HCD.out (by decide) 4 pb HP.out (Nat.lt_of_lt_of_le hpl hm.size)⟩
              clear HCD HRD HXD HP hn1 hm
              have HCD := Lib.hid hC
              have HRD := Lib.hid hr
              have HXD := Lib.hid hx
              have HP := Lib.hid hcp
              have HV1 := Lib.hid hv1
              clear hC hr hx hcp hv1
              (refine plan_do rfl rfl fun K hK => ?_; try simp only [List.getElem_toArray, List.getElem_cons_succ, List.getElem_cons_zero])
              go_simp
              refine (RefSend_any q _ s _ HXD.out).mono ?_; rintro e w4 ⟨v2, rfl, hv2, hx, hm⟩
              have hn2 : ¬ c2 pb = 2 := by rw [HP.out]; decide
              have hS4 : w4.cell? ⟨pb, 0, none⟩ = some (.int .i64 1) ∧ w4.cell? ⟨pb, 1, none⟩ = some (.string cb) := ⟨hm.cell hn2 hS3.1, hm.cell hn2 hS3.2⟩
              refine hK _ _ hS4 ?_
              clear hK K hS3
              try simp only [List.getElem_toArray, List.getElem_cons_succ, List.getElem_cons_zero, Act.put, List.setIfInBounds_toArray, List.set_cons_zero, List.set_cons_succ]
              rw [← HOE.out] at hv2
              rw [← HSE.out] at hx
              obtain ⟨c3, hC, hr, hx, hv1, hv2⟩ : ∃ c, Col w w4 c ∧ SndAt w4 p (fun k => c k = 1) s2.snd ∧ RefSAt w4 q (fun k => c k = 2) s2 ∧ Row w4 (fun k => c k = 4) 36 2 v1 o1.length (Pkt.vals o1) ∧ Row w4 (fun k => c k = 5) 36 2 v2 o1.length (Pkt.vals o1) := ⟨_, HCD.out.step hm (by decide) 5, HRD.out.away HCD.out hm (by decide) (by decide) 5, hx.stay HCD.out (by decide) 5, HV1.out.away HCD.out hm (by decide) (by decide) 5, hv2.born c2 5⟩
              clear HCD HRD HXD HP hm hn2 HV1
              have HCD := Lib.hid hC
              have HRD := Lib.hid hr
              have HXD := Lib.hid hx
              have HV1 := Lib.hid hv1
              have HV2 := Lib.hid hv2
              clear hC hr hx hv1 hv2
              repeat (first | (refine plan_skip rfl rfl ?_; simp only [List.getElem_toArray, List.getElem_cons_succ, List.getElem_cons_zero, Act.put, List.setIfInBounds_toArray, List.set_cons_zero, List.set_cons_succ]) | (refine plan_pass2 rfl rfl ?_; simp only [List.getElem_toArray, List.getElem_cons_succ, List.getElem_cons_zero, Act.put, List.setIfInBounds_toArray, List.set_cons_zero, List.set_cons_succ]) | (refine plan_pass3 rfl rfl ?_; simp only [List.getElem_toArray, List.getElem_cons_succ, List.getElem_cons_zero, Act.put, List.setIfInBounds_toArray, List.set_cons_zero, List.set_cons_succ]) | (refine plan_take (v := ?_) rfl rfl ?_ ?_; rotate_left; (focus (intro w0; go_simp; try with_reducible rfl)); simp only [List.getElem_toArray, List.getElem_cons_succ, List.getElem_cons_zero, Act.put, List.setIfInBounds_toArray, List.set_cons_zero, List.set_cons_succ]) | (refine plan_held (v := ?_) rfl rfl hS4 ?_ ?_; rotate_left; (focus (intro w0 hSw; (try dsimp only at hSw); go_split_ands; go_simp; try with_reducible rfl)); simp only [List.getElem_toArray, List.getElem_cons_succ, List.getElem_cons_zero, Act.put, List.setIfInBounds_toArray, List.set_cons_zero, List.set_cons_succ])  | (refine plan_skip1 rfl rfl hS4 ?_; simp only [List.getElem_toArray, List.getElem_cons_succ, List.getElem_cons_zero, Act.put, List.setIfInBounds_toArray, List.set_cons_zero, List.set_cons_succ]))
              (refine plan_do rfl rfl fun K hK => ?_; try simp only [List.getElem_toArray, List.getElem_cons_succ, List.getElem_cons_zero])
              go_simp
              refine (SamePkt_any _ _ o1 o1 _ HV1.out.reads HV2.out.reads).mono ?_; rintro e w5 ⟨rfl, hm⟩
              have hS5 : w5.cell? ⟨pb, 0, none⟩ = some (.int .i64 1) ∧ w5.cell? ⟨pb, 1, none⟩ = some (.string cb) := ⟨hm.cell (fun f => f) hS4.1, hm.cell (fun f => f) hS4.2⟩
              refine hK _ _ hS5 ?_
              clear hK K hS4
              try simp only [List.getElem_toArray, List.getElem_cons_succ, List.getElem_cons_zero, Act.put, List.setIfInBounds_toArray, List.set_cons_zero, List.set_cons_succ]
              simp only [decide_true]
              obtain ⟨wB, c4, hwB, hC, hr, hx, hl2, hf2⟩ : ∃ wB c, wB = w5 ∧ Col w wB c ∧ SndAt wB p (fun k => c k = 1) s2.snd ∧ RefSAt wB q (fun k => c k = 2) s2 ∧ s2.l.length ≤ j + 1 ∧ s2.first = a0 := ⟨w5, _, rfl, HCD.out.still hm 6, HRD.out.still HCD.out hm (by decide) 6, HXD.out.still HCD.out hm (by decide) 6, by rw [HSE.out]; show s.l.length ≤ _; omega, by rw [HSE.out]; exact HFI.out⟩
              rw [← hwB] at hS5 ⊢
              have HCE := Lib.hid hC
              have HRE := Lib.hid hr
              have HXE := Lib.hid hx
              clear hC hr hx hwB hm HCD HRD HXD HV1 HV2 HSE HOE
              repeat (first | (refine plan_skip rfl rfl ?_; simp only [List.getElem_toArray, List.getElem_cons_succ, List.getElem_cons_zero, Act.put, List.setIfInBounds_toArray, List.set_cons_zero, List.set_cons_succ]) | (refine plan_pass2 rfl rfl ?_; simp only [List.getElem_toArray, List.getElem_cons_succ, List.getElem_cons_zero, Act.put, List.setIfInBounds_toArray, List.set_cons_zero, List.set_cons_succ]) | (refine plan_pass3 rfl rfl ?_; simp only [List.getElem_toArray, List.getElem_cons_succ, List.getElem_cons_zero, Act.put, List.setIfInBounds_toArray, List.set_cons_zero, List.set_cons_succ]) | (refine plan_take (v := ?_) rfl rfl ?_ ?_; rotate_left; (focus (intro w0; go_simp; try with_reducible rfl)); simp only [List.getElem_toArray, List.getElem_cons_succ, List.getElem_cons_zero, Act.put, List.setIfInBounds_toArray, List.set_cons_zero, List.set_cons_succ]) | (refine plan_held (v := ?_) rfl rfl hS5 ?_ ?_; rotate_left; (focus (intro w0 hSw; (try dsimp only at hSw); go_split_ands; go_simp; try with_reducible rfl)); simp only [List.getElem_toArray, List.getElem_cons_succ, List.getElem_cons_zero, Act.put, List.setIfInBounds_toArray, List.set_cons_zero, List.set_cons_succ])  | (refine plan_skip1 rfl rfl hS5 ?_; simp only [List.getElem_toArray, List.getElem_cons_succ, List.getElem_cons_zero, Act.put, List.setIfInBounds_toArray, List.set_cons_zero, List.set_cons_succ]))
              refine plan_nil ?_
              go_wp2_with fail
              try clear HCD
              try clear HRD
              try clear HXD
              try clear HP
              obtain ⟨_, _, hv12, hblk12, hrow12⟩ := HXE.out
              obtain ⟨ha12, hcap12, rfl, _, _, _⟩ := hrow12.form
              have kl : wB.drew.cell? ⟨q, 2, none⟩ = some (.slice ha12 s2.l.length hcap12) := cellOf hblk12 2
              have kd12 : wB.drew.cell? ⟨q, 3, none⟩ = some (.int .i64 s2.done) := cellOf hblk12 3
              clear hblk12 hrow12
              have HOK2 := Lib.hid HXE.out.1
              have hd2 := HOK2.out.d1
              have hs2 := HOK2.out.s1
              have hbl : s2.snd.bodies.length = s2.l.length - s2.done := by unfold RefS.snd; simp
              have HBL := Lib.hid hbl
              have hsub : IntKind.i64.wrap ((s2.l.length : Int) - (s2.done : Int)) = ((s2.l.length - s2.done : Nat) : Int) := by rw [IntWalk.i64_in _ (by omega)]; omega
              clear hbl
              refine wp_region_plan [] [(0, 0), (2, 0), (3, 0), (4, 0), (5, 1), (6, 0), (7, 0), (8, 0), (9, 0), (10, 1), (11, 0), (1, 2), (12, 0), (13, 0), (14, 0), (16, 0), (17, 0), (18, 0), (19, 0), (20, 1), (15, 2), (21, 2), (22, 0), (23, 0)] (fun w' : World => w'.cell? ⟨q, 2, none⟩ = some (.slice ha12 s2.l.length hcap12) ∧ w'.cell? ⟨q, 3, none⟩ = some (.int .i64 s2.done)) (by kernel_rfl) (by kernel_rfl) (fun d _ _ _ _ h => by cases d <;> exact h) ?_
              repeat (first | (refine plan_skip rfl rfl ?_; simp only [List.getElem_toArray, List.getElem_cons_succ, List.getElem_cons_zero, Act.put, List.setIfInBounds_toArray, List.set_cons_zero, List.set_cons_succ]) | (refine plan_pass2 rfl rfl ?_; simp only [List.getElem_toArray, List.getElem_cons_succ, List.getElem_cons_zero, Act.put, List.setIfInBounds_toArray, List.set_cons_zero, List.set_cons_succ]) | (refine plan_pass3 rfl rfl ?_; simp only [List.getElem_toArray, List.getElem_cons_succ, List.getElem_cons_zero, Act.put, List.setIfInBounds_toArray, List.set_cons_zero, List.set_cons_succ]) | (refine plan_take (v := ?_) rfl rfl ?_ ?_; rotate_left; (focus (intro w0; go_simp; try with_reducible rfl)); simp only [List.getElem_toArray, List.getElem_cons_succ, List.getElem_cons_zero, Act.put, List.setIfInBounds_toArray, List.set_cons_zero, List.set_cons_succ]) | (refine plan_held (v := ?_) rfl rfl ⟨kl, kd12⟩ ?_ ?_; rotate_left; (focus (intro w0 hSw; (try dsimp only at hSw); go_split_ands; go_simp; try with_reducible rfl)); simp only [List.getElem_toArray, List.getElem_cons_succ, List.getElem_cons_zero, Act.put, List.setIfInBounds_toArray, List.set_cons_zero, List.set_cons_succ])  | (refine plan_skip1 rfl rfl ⟨kl, kd12⟩ ?_; simp only [List.getElem_toArray, List.getElem_cons_succ, List.getElem_cons_zero, Act.put, List.setIfInBounds_toArray, List.set_cons_zero, List.set_cons_succ]))
              (refine plan_do rfl rfl fun K hK => ?_; try simp only [List.getElem_toArray, List.getElem_cons_succ, List.getElem_cons_zero])
              go_simp
              refine (Open_any p _ s2.snd _ HRE.out.drewS).mono ?_; rintro e w' ⟨rfl, rfl⟩
              refine hK _ _ ⟨kl, kd12⟩ ?_
              clear hK K
              try simp only [List.getElem_toArray, List.getElem_cons_succ, List.getElem_cons_zero, Act.put, List.setIfInBounds_toArray, List.set_cons_zero, List.set_cons_succ]
              rw [HBL.out]
              try simp only [hsub]
              repeat (first | (refine plan_skip rfl rfl ?_; simp only [List.getElem_toArray, List.getElem_cons_succ, List.getElem_cons_zero, Act.put, List.setIfInBounds_toArray, List.set_cons_zero, List.set_cons_succ]) | (refine plan_pass2 rfl rfl ?_; simp only [List.getElem_toArray, List.getElem_cons_succ, List.getElem_cons_zero, Act.put, List.setIfInBounds_toArray, List.set_cons_zero, List.set_cons_succ]) | (refine plan_pass3 rfl rfl ?_; simp only [List.getElem_toArray, List.getElem_cons_succ, List.getElem_cons_zero, Act.put, List.setIfInBounds_toArray, List.set_cons_zero, List.set_cons_succ]) | (refine plan_take (v := ?_) rfl rfl ?_ ?_; rotate_left; (focus (intro w0; go_simp; try with_reducible rfl)); simp only [List.getElem_toArray, List.getElem_cons_succ, List.getElem_cons_zero, Act.put, List.setIfInBounds_toArray, List.set_cons_zero, List.set_cons_succ]) | (refine plan_held (v := ?_) rfl rfl ⟨kl, kd12⟩ ?_ ?_; rotate_left; (focus (intro w0 hSw; (try dsimp only at hSw); go_split_ands; go_simp; try with_reducible rfl)); simp only [List.getElem_toArray, List.getElem_cons_succ, List.getElem_cons_zero, Act.put, List.setIfInBounds_toArray, List.set_cons_zero, List.set_cons_succ])  | (refine plan_skip1 rfl rfl ⟨kl, kd12⟩ ?_; simp only [List.getElem_toArray, List.getElem_cons_succ, List.getElem_cons_zero, Act.put, List.setIfInBounds_toArray, List.set_cons_zero, List.set_cons_succ]))
              (refine plan_do rfl rfl fun K hK => ?_; try simp only [List.getElem_toArray, List.getElem_cons_succ, List.getElem_cons_zero])
              go_simp
              refine (Base_any p _ s2.snd _ HRE.out.drewS).mono ?_; rintro e w' ⟨rfl, rfl⟩
              refine hK _ _ ⟨kl, kd12⟩ ?_
              clear hK K
              try simp only [List.getElem_toArray, List.getElem_cons_succ, List.getElem_cons_zero, Act.put, List.setIfInBounds_toArray, List.set_cons_zero, List.set_cons_succ]
              have hbs : Hid (s2.snd.base = Sr.add a0 s2.done) := Lib.hid (by unfold RefS.snd; rw [hf2])
              rw [hbs.out]
              repeat (first | (refine plan_skip rfl rfl ?_; simp only [List.getElem_toArray, List.getElem_cons_succ, List.getElem_cons_zero, Act.put, List.setIfInBounds_toArray, List.set_cons_zero, List.set_cons_succ]) | (refine plan_pass2 rfl rfl ?_; simp only [List.getElem_toArray, List.getElem_cons_succ, List.getElem_cons_zero, Act.put, List.setIfInBounds_toArray, List.set_cons_zero, List.set_cons_succ]) | (refine plan_pass3 rfl rfl ?_; simp only [List.getElem_toArray, List.getElem_cons_succ, List.getElem_cons_zero, Act.put, List.setIfInBounds_toArray, List.set_cons_zero, List.set_cons_succ]) | (refine plan_take (v := ?_) rfl rfl ?_ ?_; rotate_left; (focus (intro w0; go_simp; try with_reducible rfl)); simp only [List.getElem_toArray, List.getElem_cons_succ, List.getElem_cons_zero, Act.put, List.setIfInBounds_toArray, List.set_cons_zero, List.set_cons_succ]) | fail )
              (refine plan_do rfl rfl fun K hK => ?_; try simp only [List.getElem_toArray, List.getElem_cons_succ, List.getElem_cons_zero])
              go_simp
              refine (refAdd_any a0 s2.done h00 h01 (by omega) (by omega) _).mono ?_; rintro e w' ⟨rfl, rfl⟩
              refine hK _ _ ⟨kl, kd12⟩ ?_
              clear hK K
              try simp only [List.getElem_toArray, List.getElem_cons_succ, List.getElem_cons_zero, Act.put, List.setIfInBounds_toArray, List.set_cons_zero, List.set_cons_succ]
              repeat (first | (refine plan_skip rfl rfl ?_; simp only [List.getElem_toArray, List.getElem_cons_succ, List.getElem_cons_zero, Act.put, List.setIfInBounds_toArray, List.set_cons_zero, List.set_cons_succ]) | (refine plan_pass2 rfl rfl ?_; simp only [List.getElem_toArray, List.getElem_cons_succ, List.getElem_cons_zero, Act.put, List.setIfInBounds_toArray, List.set_cons_zero, List.set_cons_succ]) | (refine plan_pass3 rfl rfl ?_; simp only [List.getElem_toArray, List.getElem_cons_succ, List.getElem_cons_zero, Act.put, List.setIfInBounds_toArray, List.set_cons_zero, List.set_cons_succ]) | (refine plan_take (v := ?_) rfl rfl ?_ ?_; rotate_left; (focus (intro w0; go_simp; try with_reducible rfl)); simp only [List.getElem_toArray, List.getElem_cons_succ, List.getElem_cons_zero, Act.put, List.setIfInBounds_toArray, List.set_cons_zero, List.set_cons_succ]) | fail )
              refine plan_nil ?_
              have HL2 := Lib.hid hl2
              have HF2 := Lib.hid hf2
              clear kl kd12 hsub hd2 hs2 hl2 hf2
              go_wp2
              go_roundw
              case rel => exact ⟨j + 1, _, s2, by omega, by omega, by go_num, HCE.out.drew, HRE.out.drewS, HXE.out, HL2.out, HF2.out⟩
              case measure => simp [intOf]; omega
          · as_aux_lemma =>
              obtain ⟨s2, hs2e⟩ : ∃ s2, s2 = s := ⟨_, rfl⟩
              obtain ⟨o1, ho1⟩ : ∃ o1, o1 = s.again := ⟨_, rfl⟩
              have HSE := Lib.hid hs2e
              have HOE := Lib.hid ho1
              clear hs2e ho1
              refine wp_region_plan [] [(0, 0), (1, 1), (2, 0), (3, 0), (4, 0), (5, 0), (6, 1), (8, 0), (9, 0), (10, 1), (7, 2), (11, 2), (12, 0), (13, 0), (14, 0), (15, 0), (16, 1), (17, 0), (18, 0), (19, 0), (21, 0), (20, 2), (22, 2), (23, 2), (24, 0), (25, 0), (26, 0), (27, 0), (28, 0), (29, 1), (30, 0), (31, 0), (32, 0), (34, 0), (33, 2), (35, 2), (36, 2), (37, 0), (38, 0), (39, 0), (40, 0), (41, 0), (42, 1), (43, 0), (44, 0), (45, 0), (46, 0), (48, 0), (49, 0), (47, 2), (50, 2), (51, 0), (52, 0), (53, 0)] (fun w' : World => w'.cell? ⟨pb, 0, none⟩ = some (.int .i64 2) ∧ w'.cell? ⟨pb, 1, none⟩ = some (.string cb)) (by kernel_rfl) (by kernel_rfl) (fun d _ _ _ _ h => by cases d <;> exact h) ?_
              repeat (first | (refine plan_skip rfl rfl ?_; simp only [List.getElem_toArray, List.getElem_cons_succ, List.getElem_cons_zero, Act.put, List.setIfInBounds_toArray, List.set_cons_zero, List.set_cons_succ]) | (refine plan_pass2 rfl rfl ?_; simp only [List.getElem_toArray, List.getElem_cons_succ, List.getElem_cons_zero, Act.put, List.setIfInBounds_toArray, List.set_cons_zero, List.set_cons_succ]) | (refine plan_pass3 rfl rfl ?_; simp only [List.getElem_toArray, List.getElem_cons_succ, List.getElem_cons_zero, Act.put, List.setIfInBounds_toArray, List.set_cons_zero, List.set_cons_succ]) | (refine plan_take (v := ?_) rfl rfl ?_ ?_; rotate_left; (focus (intro w0; go_simp; try with_reducible rfl)); simp only [List.getElem_toArray, List.getElem_cons_succ, List.getElem_cons_zero, Act.put, List.setIfInBounds_toArray, List.set_cons_zero, List.set_cons_succ]) | (refine plan_held (v := ?_) rfl rfl hS ?_ ?_; rotate_left; (focus (intro w0 hSw; (try dsimp only at hSw); go_split_ands; go_simp; try with_reducible rfl)); simp only [List.getElem_toArray, List.getElem_cons_succ, List.getElem_cons_zero, Act.put, List.setIfInBounds_toArray, List.set_cons_zero, List.set_cons_succ])  | (refine plan_skip1 rfl rfl hS ?_; simp only [List.getElem_toArray, List.getElem_cons_succ, List.getElem_cons_zero, Act.put, List.setIfInBounds_toArray, List.set_cons_zero, List.set_cons_succ]))
              (refine plan_do rfl rfl fun K hK => ?_; try simp only [List.getElem_toArray, List.getElem_cons_succ, List.getElem_cons_zero])
              go_simp
              refine (Again_any p _ s.snd _ HRD.out).mono ?_; rintro e w3 ⟨v1, rfl, hv1, hm⟩
              have hS3 : w3.cell? ⟨pb, 0, none⟩ = some (.int .i64 2) ∧ w3.cell? ⟨pb, 1, none⟩ = some (.string cb) := ⟨hm.cell (fun f => f) hS.1, hm.cell (fun f => f) hS.2⟩
              refine hK _ _ hS3 ?_
              clear hK K hS
              try simp only [List.getElem_toArray, List.getElem_cons_succ, List.getElem_cons_zero, Act.put, List.setIfInBounds_toArray, List.set_cons_zero, List.set_cons_succ]
              rw [snd_again, ← HOE.out] at hv1
              obtain ⟨c2, hC, hr, hx, hv1, hcp⟩ : ∃ c, Col w w3 c ∧ SndAt w3 p (fun k => c k = 1) s2.snd ∧ RefSAt w3 q (fun k => c k = 2) s ∧ Row w3 (fun k => c k = 4) 36 2 v1 o1.length (Pkt.vals o1) ∧ c pb = 3 := ⟨_, HCD.out.still hm 4, HSE.out ▸ HRD.out.still HCD.out hm (by decide) 4, HXD.out.still HCD.out hm (by decide) 4, hv1.born c1 4, paint_away HCD.out (by decide) 4 pb HP.out (Nat.lt_of_lt_of_le hpl hm.size)⟩
              clear HCD HRD HXD HP hm
              have HCD := Lib.hid hC
              have HRD := Lib.hid hr
              have HXD := Lib.hid hx
              have HP := Lib.hid hcp
              have HV1 := Lib.hid hv1
              clear hC hr hx hcp hv1
              (refine plan_do rfl rfl fun K hK => ?_; try simp only [List.getElem_toArray, List.getElem_cons_succ, List.getElem_cons_zero])
              go_simp
              refine (RefAgain_any q _ s _ HXD.out).mono ?_; rintro e w4 ⟨v2, rfl, hv2, hm⟩
              have hS4 : w4.cell? ⟨pb, 0, none⟩ = some (.int .i64 2) ∧ w4.cell? ⟨pb, 1, none⟩ = some (.string cb) := ⟨hm.cell (fun f => f) hS3.1, hm.cell (fun f => f) hS3.2⟩
              refine hK _ _ hS4 ?_
              clear hK K hS3
              try simp only [List.getElem_toArray, List.getElem_cons_succ, List.getElem_cons_zero, Act.put, List.setIfInBounds_toArray, List.set_cons_zero, List.set_cons_succ]
              rw [← HOE.out] at hv2
              obtain ⟨c3, hC, hr, hx, hv1, hv2⟩ : ∃ c, Col w w4 c ∧ SndAt w4 p (fun k => c k = 1) s2.snd ∧ RefSAt w4 q (fun k => c k = 2) s2 ∧ Row w4 (fun k => c k = 4) 36 2 v1 o1.length (Pkt.vals o1) ∧ Row w4 (fun k => c k = 5) 36 2 v2 o1.length (Pkt.vals o1) := ⟨_, HCD.out.still hm 5, HRD.out.still HCD.out hm (by decide) 5, HSE.out ▸ HXD.out.still HCD.out hm (by decide) 5, HV1.out.stillC HCD.out hm (by decide) 5, hv2.born c2 5⟩
              clear HCD HRD HXD HP hm HV1
              have HCD := Lib.hid hC
              have HRD := Lib.hid hr
              have HXD := Lib.hid hx
              have HV1 := Lib.hid hv1
              have HV2 := Lib.hid hv2
              clear hC hr hx hv1 hv2
              repeat (first | (refine plan_skip rfl rfl ?_; simp only [List.getElem_toArray, List.getElem_cons_succ, List.getElem_cons_zero, Act.put, List.setIfInBounds_toArray, List.set_cons_zero, List.set_cons_succ]) | (refine plan_pass2 rfl rfl ?_; simp only [List.getElem_toArray, List.getElem_cons_succ, List.getElem_cons_zero, Act.put, List.setIfInBounds_toArray, List.set_cons_zero, List.set_cons_succ]) | (refine plan_pass3 rfl rfl ?_; simp only [List.getElem_toArray, List.getElem_cons_succ, List.getElem_cons_zero, Act.put, List.setIfInBounds_toArray, List.set_cons_zero, List.set_cons_succ]) | (refine plan_take (v := ?_) rfl rfl ?_ ?_; rotate_left; (focus (intro w0; go_simp; try with_reducible rfl)); simp only [List.getElem_toArray, List.getElem_cons_succ, List.getElem_cons_zero, Act.put, List.setIfInBounds_toArray, List.set_cons_zero, List.set_cons_succ]) | (refine plan_held (v := ?_) rfl rfl hS4 ?_ ?_; rotate_left; (focus (intro w0 hSw; (try dsimp only at hSw); go_split_ands; go_simp; try with_reducible rfl)); simp only [List.getElem_toArray, List.getElem_cons_succ, List.getElem_cons_zero, Act.put, List.setIfInBounds_toArray, List.set_cons_zero, List.set_cons_succ])  | (refine plan_skip1 rfl rfl hS4 ?_; simp only [List.getElem_toArray, List.getElem_cons_succ, List.getElem_cons_zero, Act.put, List.setIfInBounds_toArray, List.set_cons_zero, List.set_cons_succ]))
              (refine plan_do rfl rfl fun K hK => ?_; try simp only [List.getElem_toArray, List.getElem_cons_succ, List.getElem_cons_zero])
              go_simp
              refine (SamePkt_any _ _ o1 o1 _ HV1.out.reads HV2.out.reads).mono ?_; rintro e w5 ⟨rfl, hm⟩
              have hS5 : w5.cell? ⟨pb, 0, none⟩ = some (.int .i64 2) ∧ w5.cell? ⟨pb, 1, none⟩ = some (.string cb) := ⟨hm.cell (fun f => f) hS4.1, hm.cell (fun f => f) hS4.2⟩
              refine hK _ _ hS5 ?_
              clear hK K hS4
              try simp only [List.getElem_toArray, List.getElem_cons_succ, List.getElem_cons_zero, Act.put, List.setIfInBounds_toArray, List.set_cons_zero, List.set_cons_succ]
              simp only [decide_true]
              obtain ⟨wB, c4, hwB, hC, hr, hx, hl2, hf2⟩ : ∃ wB c, wB = w5 ∧ Col w wB c ∧ SndAt wB p (fun k => c k = 1) s2.snd ∧ RefSAt wB q (fun k => c k = 2) s2 ∧ s2.l.length ≤ j + 1 ∧ s2.first = a0 := ⟨w5, _, rfl, HCD.out.still hm 6, HRD.out.still HCD.out hm (by decide) 6, HXD.out.still HCD.out hm (by decide) 6, by rw [HSE.out]; show s.l.length ≤ _; omega, by rw [HSE.out]; exact HFI.out⟩
              rw [← hwB] at hS5 ⊢
              have HCE := Lib.hid hC
              have HRE := Lib.hid hr
              have HXE := Lib.hid hx
              clear hC hr hx hwB hm HCD HRD HXD HV1 HV2 HSE HOE
              repeat (first | (refine plan_skip rfl rfl ?_; simp only [List.getElem_toArray, List.getElem_cons_succ, List.getElem_cons_zero, Act.put, List.setIfInBounds_toArray, List.set_cons_zero, List.set_cons_succ]) | (refine plan_pass2 rfl rfl ?_; simp only [List.getElem_toArray, List.getElem_cons_succ, List.getElem_cons_zero, Act.put, List.setIfInBounds_toArray, List.set_cons_zero, List.set_cons_succ]) | (refine plan_pass3 rfl rfl ?_; simp only [List.getElem_toArray, List.getElem_cons_succ, List.getElem_cons_zero, Act.put, List.setIfInBounds_toArray, List.set_cons_zero, List.set_cons_succ]) | (refine plan_take (v := ?_) rfl rfl ?_ ?_; rotate_left; (focus (intro w0; go_simp; try with_reducible rfl)); simp only [List.getElem_toArray, List.getElem_cons_succ, List.getElem_cons_zero, Act.put, List.setIfInBounds_toArray, List.set_cons_zero, List.set_cons_succ]) | (refine plan_held (v := ?_) rfl rfl hS5 ?_ ?_; rotate_left; (focus (intro w0 hSw; (try dsimp only at hSw); go_split_ands; go_simp; try with_reducible rfl)); simp only [List.getElem_toArray, List.getElem_cons_succ, List.getElem_cons_zero, Act.put, List.setIfInBounds_toArray, List.set_cons_zero, List.set_cons_succ])  | (refine plan_skip1 rfl rfl hS5 ?_; simp only [List.getElem_toArray, List.getElem_cons_succ, List.getElem_cons_zero, Act.put, List.setIfInBounds_toArray, List.set_cons_zero, List.set_cons_succ]))
              refine plan_nil ?_
              go_wp2_with fail
              try clear HCD
              try clear HRD
              try clear HXD
              try clear HP
              obtain ⟨_, _, hv12, hblk12, hrow12⟩ := HXE.out
              obtain ⟨ha12, hcap12, rfl, _, _, _⟩ := hrow12.form
              have kl : wB.drew.cell? ⟨q, 2, none⟩ = some (.slice ha12 s2.l.length hcap12) := cellOf hblk12 2
              have kd12 : wB.drew.cell? ⟨q, 3, none⟩ = some (.int .i64 s2.done) := cellOf hblk12 3
              clear hblk12 hrow12
              have HOK2 := Lib.hid HXE.out.1
              have hd2 := HOK2.out.d1
              have hs2 := HOK2.out.s1
              have hbl : s2.snd.bodies.length = s2.l.length - s2.done := by unfold RefS.snd; simp
              have HBL := Lib.hid hbl
              have hsub : IntKind.i64.wrap ((s2.l.length : Int) - (s2.done : Int)) = ((s2.l.length - s2.done : Nat) : Int) := by rw [IntWalk.i64_in _ (by omega)]; omega
              clear hbl
              refine wp_region_plan [] [(0, 0), (2, 0), (3, 0), (4, 0), (5, 1), (6, 0), (7, 0), (8, 0), (9, 0), (10, 1), (11, 0), (1, 2), (12, 0), (13, 0), (14, 0), (16, 0), (17, 0), (18, 0), (19, 0), (20, 1), (15, 2), (21, 2), (22, 0), (23, 0)] (fun w' : World => w'.cell? ⟨q, 2, none⟩ = some (.slice ha12 s2.l.length hcap12) ∧ w'.cell? ⟨q, 3, none⟩ = some (.int .i64 s2.done)) (by kernel_rfl) (by kernel_rfl) (fun d _ _ _ _ h => by cases d <;> exact h) ?_
              repeat (first | (refine plan_skip rfl rfl ?_; simp only [List.getElem_toArray, List.getElem_cons_succ, List.getElem_cons_zero, Act.put, List.setIfInBounds_toArray, List.set_cons_zero, List.set_cons_succ]) | (refine plan_pass2 rfl rfl ?_; simp only [List.getElem_toArray, List.getElem_cons_succ, List.getElem_cons_zero, Act.put, List.setIfInBounds_toArray, List.set_cons_zero, List.set_cons_succ]) | (refine plan_pass3 rfl rfl ?_; simp only [List.getElem_toArray, List.getElem_cons_succ, List.getElem_cons_zero, Act.put, List.setIfInBounds_toArray, List.set_cons_zero, List.set_cons_succ]) | (refine plan_take (v := ?_) rfl rfl ?_ ?_; rotate_left; (focus (intro w0; go_simp; try with_reducible rfl)); simp only [List.getElem_toArray, List.getElem_cons_succ, List.getElem_cons_zero, Act.put, List.setIfInBounds_toArray, List.set_cons_zero, List.set_cons_succ]) | (refine plan_held (v := ?_) rfl rfl ⟨kl, kd12⟩ ?_ ?_; rotate_left; (focus (intro w0 hSw; (try dsimp only at hSw); go_split_ands; go_simp; try with_reducible rfl)); simp only [List.getElem_toArray, List.getElem_cons_succ, List.getElem_cons_zero, Act.put, List.setIfInBounds_toArray, List.set_cons_zero, List.set_cons_succ])  | (refine plan_skip1 rfl rfl ⟨kl, kd12⟩ ?_; simp only [List.getElem_toArray, List.getElem_cons_succ, List.getElem_cons_zero, Act.put, List.setIfInBounds_toArray, List.set_cons_zero, List.set_cons_succ]))
              (refine plan_do rfl rfl fun K hK => ?_; try simp only [List.getElem_toArray, List.getElem_cons_succ, List.getElem_cons_zero])
              go_simp
              refine (Open_any p _ s2.snd _ HRE.out.drewS).mono ?_; rintro e w' ⟨rfl, rfl⟩
              refine hK _ _ ⟨kl, kd12⟩ ?_
              clear hK K
              try simp only [List.getElem_toArray, List.getElem_cons_succ, List.getElem_cons_zero, Act.put, List.setIfInBounds_toArray, List.set_cons_zero, List.set_cons_succ]
              rw [HBL.out]
              try simp only [hsub]
              repeat (first | (refine plan_skip rfl rfl ?_; simp only [List.getElem_toArray, List.getElem_cons_succ, List.getElem_cons_zero, Act.put, List.setIfInBounds_toArray, List.set_cons_zero, List.set_cons_succ]) | (refine plan_pass2 rfl rfl ?_; simp only [List.getElem_toArray, List.getElem_cons_succ, List.getElem_cons_zero, Act.put, List.setIfInBounds_toArray, List.set_cons_zero, List.set_cons_succ]) | (refine plan_pass3 rfl rfl ?_; simp only [List.getElem_toArray, List.getElem_cons_succ, List.getElem_cons_zero, Act.put, List.setIfInBounds_toArray, List.set_cons_zero, List.set_cons_succ]) | (refine plan_take (v := ?_) rfl rfl ?_ ?_; rotate_left; (focus (intro w0; go_simp; try with_reducible rfl)); simp only [List.getElem_toArray, List.getElem_cons_succ, List.getElem_cons_zero, Act.put, List.setIfInBounds_toArray, List.set_cons_zero, List.set_cons_succ]) | (refine plan_held (v := ?_) rfl rfl ⟨kl, kd12⟩ ?_ ?_; rotate_left; (focus (intro w0 hSw; (try dsimp only at hSw); go_split_ands; go_simp; try with_reducible rfl)); simp only [List.getElem_toArray, List.getElem_cons_succ, List.getElem_cons_zero, Act.put, List.setIfInBounds_toArray, List.set_cons_zero, List.set_cons_succ])  | (refine plan_skip1 rfl rfl ⟨kl, kd12⟩ ?_; simp only [List.getElem_toArray, List.getElem_cons_succ, List.getElem_cons_zero, Act.put, List.setIfInBounds_toArray, List.set_cons_zero, List.set_cons_succ]))
              (refine plan_do rfl rfl fun K hK => ?_; try simp only [List.getElem_toArray, List.getElem_cons_succ, List.getElem_cons_zero])
              go_simp
              refine (Base_any p _ s2.snd _ HRE.out.drewS).mono ?_; rintro e w' ⟨rfl, rfl⟩
              refine hK _ _ ⟨kl, kd12⟩ ?_
              clear hK K
              try simp only [List.getElem_toArray, List.getElem_cons_succ, List.getElem_cons_zero, Act.put, List.setIfInBounds_toArray, List.set_cons_zero, List.set_cons_succ]
              have hbs : Hid (s2.snd.base = Sr.add a0 s2.done) := Lib.hid (by unfold RefS.snd; rw [hf2])
              rw [hbs.out]
              repeat (first | (refine plan_skip rfl rfl ?_; simp only [List.getElem_toArray, List.getElem_cons_succ, List.getElem_cons_zero, Act.put, List.setIfInBounds_toArray, List.set_cons_zero, List.set_cons_succ]) | (refine plan_pass2 rfl rfl ?_; simp only [List.getElem_toArray, List.getElem_cons_succ, List.getElem_cons_zero, Act.put, List.setIfInBounds_toArray, List.set_cons_zero, List.set_cons_succ]) | (refine plan_pass3 rfl rfl ?_; simp only [List.getElem_toArray, List.getElem_cons_succ, List.getElem_cons_zero, Act.put, List.setIfInBounds_toArray, List.set_cons_zero, List.set_cons_succ]) | (refine plan_take (v := ?_) rfl rfl ?_ ?_; rotate_left; (focus (intro w0; go_simp; try with_reducible rfl)); simp only [List.getElem_toArray, List.getElem_cons_succ, List.getElem_cons_zero, Act.put, List.setIfInBounds_toArray, List.set_cons_zero, List.set_cons_succ]) | fail )
              (refine plan_do rfl rfl fun K hK => ?_; try simp only [List.getElem_toArray, List.getElem_cons_succ, List.getElem_cons_zero])
              go_simp
              refine (refAdd_any a0 s2.done h00 h01 (by omega) (by omega) _).mono ?_; rintro e w' ⟨rfl, rfl⟩
              refine hK _ _ ⟨kl, kd12⟩ ?_
              clear hK K
              try simp only [List.getElem_toArray, List.getElem_cons_succ, List.getElem_cons_zero, Act.put, List.setIfInBounds_toArray, List.set_cons_zero, List.set_cons_succ]
              repeat (first | (refine plan_skip rfl rfl ?_; simp only [List.getElem_toArray, List.getElem_cons_succ, List.getElem_cons_zero, Act.put, List.setIfInBounds_toArray, List.set_cons_zero, List.set_cons_succ]) | (refine plan_pass2 rfl rfl ?_; simp only [List.getElem_toArray, List.getElem_cons_succ, List.getElem_cons_zero, Act.put, List.setIfInBounds_toArray, List.set_cons_zero, List.set_cons_succ]) | (refine plan_pass3 rfl rfl ?_; simp only [List.getElem_toArray, List.getElem_cons_succ, List.getElem_cons_zero, Act.put, List.setIfInBounds_toArray, List.set_cons_zero, List.set_cons_succ]) | (refine plan_take (v := ?_) rfl rfl ?_ ?_; rotate_left; (focus (intro w0; go_simp; try with_reducible rfl)); simp only [List.getElem_toArray, List.getElem_cons_succ, List.getElem_cons_zero, Act.put, List.setIfInBounds_toArray, List.set_cons_zero, List.set_cons_succ]) | fail )
              refine plan_nil ?_
              have HL2 := Lib.hid hl2
              have HF2 := Lib.hid hf2
              clear kl kd12 hsub hd2 hs2 hl2 hf2
              go_wp2
              go_roundw
              case rel => exact ⟨j + 1, _, s2, by omega, by omega, by go_num, HCE.out.drew, HRE.out.drewS, HXE.out, HL2.out, HF2.out⟩
              case measure => simp [intOf]; omega
          · as_aux_lemma =>
              have hk1 : ¬ kd = 0 := by omega
              have hk2 : ¬ kd = 1 := by omega
              have hk3 : ¬ kd = 2 := by omega
              have hk4 : 2 < kd := by omega
              obtain ⟨s2, hs2e⟩ : ∃ s2, s2 = s.ack ak := ⟨_, rfl⟩
              obtain ⟨am, ham⟩ : ∃ am, am = s.acked ak := ⟨_, rfl⟩
              have HSE := Lib.hid hs2e
              have HAM := Lib.hid ham
              have HSA : Hid (s.snd.ack ak = s2.snd) := Lib.hid (by rw [hs2e]; exact snd_ack HOK.out ak hak0.1 hak0.2)
              clear hs2e ham
              refine wp_region_plan [] [(0, 0), (1, 1), (2, 0), (3, 0), (4, 0), (5, 0), (6, 1), (8, 0), (9, 0), (10, 1), (7, 2), (11, 2), (12, 0), (13, 0), (14, 0), (15, 0), (16, 1), (17, 0), (18, 0), (19, 0), (21, 0), (20, 2), (22, 2), (23, 2), (24, 0), (25, 0), (26, 0), (27, 0), (28, 0), (29, 1), (30, 0), (31, 0), (32, 0), (34, 0), (33, 2), (35, 2), (36, 2), (37, 0), (38, 0), (39, 0), (40, 0), (41, 0), (42, 1), (43, 0), (44, 0), (45, 0), (46, 0), (48, 0), (49, 0), (47, 2), (50, 2), (51, 0), (52, 0), (53, 0)] (fun w' : World => w'.cell? ⟨pb, 0, none⟩ = some (.int .i64 kd) ∧ w'.cell? ⟨pb, 1, none⟩ = some (.string cb)) (by kernel_rfl) (by kernel_rfl) (fun d _ _ _ _ h => by cases d <;> exact h) ?_
              repeat (first | (refine plan_skip rfl rfl ?_; simp only [List.getElem_toArray, List.getElem_cons_succ, List.getElem_cons_zero, Act.put, List.setIfInBounds_toArray, List.set_cons_zero, List.set_cons_succ]) | (refine plan_pass2 rfl rfl ?_; simp only [List.getElem_toArray, List.getElem_cons_succ, List.getElem_cons_zero, Act.put, List.setIfInBounds_toArray, List.set_cons_zero, List.set_cons_succ]) | (refine plan_pass3 rfl rfl ?_; simp only [List.getElem_toArray, List.getElem_cons_succ, List.getElem_cons_zero, Act.put, List.setIfInBounds_toArray, List.set_cons_zero, List.set_cons_succ]) | (refine plan_take (v := ?_) rfl rfl ?_ ?_; rotate_left; (focus (intro w0; go_simp; try with_reducible rfl)); simp only [List.getElem_toArray, List.getElem_cons_succ, List.getElem_cons_zero, Act.put, List.setIfInBounds_toArray, List.set_cons_zero, List.set_cons_succ]) | (refine plan_held (v := ?_) rfl rfl hS ?_ ?_; rotate_left; (focus (intro w0 hSw; (try dsimp only at hSw); go_split_ands; go_simp; try with_reducible rfl)); simp only [List.getElem_toArray, List.getElem_cons_succ, List.getElem_cons_zero, Act.put, List.setIfInBounds_toArray, List.set_cons_zero, List.set_cons_succ])  | (refine plan_skip1 rfl rfl hS ?_; simp only [List.getElem_toArray, List.getElem_cons_succ, List.getElem_cons_zero, Act.put, List.setIfInBounds_toArray, List.set_cons_zero, List.set_cons_succ]))
              try simp only [beq_eq_false_iff_ne.2 hk1, beq_eq_false_iff_ne.2 hk2, beq_eq_false_iff_ne.2 hk3, decide_eq_true hk4]
              repeat (first | (refine plan_skip rfl rfl ?_; simp only [List.getElem_toArray, List.getElem_cons_succ, List.getElem_cons_zero, Act.put, List.setIfInBounds_toArray, List.set_cons_zero, List.set_cons_succ]) | (refine plan_pass2 rfl rfl ?_; simp only [List.getElem_toArray, List.getElem_cons_succ, List.getElem_cons_zero, Act.put, List.setIfInBounds_toArray, List.set_cons_zero, List.set_cons_succ]) | (refine plan_pass3 rfl rfl ?_; simp only [List.getElem_toArray, List.getElem_cons_succ, List.getElem_cons_zero, Act.put, List.setIfInBounds_toArray, List.set_cons_zero, List.set_cons_succ]) | (refine plan_take (v := ?_) rfl rfl ?_ ?_; rotate_left; (focus (intro w0; go_simp; try with_reducible rfl)); simp only [List.getElem_toArray, List.getElem_cons_succ, List.getElem_cons_zero, Act.put, List.setIfInBounds_toArray, List.set_cons_zero, List.set_cons_succ]) | (refine plan_held (v := ?_) rfl rfl hS ?_ ?_; rotate_left; (focus (intro w0 hSw; (try dsimp only at hSw); go_split_ands; go_simp; try with_reducible rfl)); simp only [List.getElem_toArray, List.getElem_cons_succ, List.getElem_cons_zero, Act.put, List.setIfInBounds_toArray, List.set_cons_zero, List.set_cons_succ])  | (refine plan_skip1 rfl rfl hS ?_; simp only [List.getElem_toArray, List.getElem_cons_succ, List.getElem_cons_zero, Act.put, List.setIfInBounds_toArray, List.set_cons_zero, List.set_cons_succ]))
              try simp only [beq_eq_false_iff_ne.2 hk1, beq_eq_false_iff_ne.2 hk2, beq_eq_false_iff_ne.2 hk3, decide_eq_true hk4]
              repeat (first | (refine plan_skip rfl rfl ?_; simp only [List.getElem_toArray, List.getElem_cons_succ, List.getElem_cons_zero, Act.put, List.setIfInBounds_toArray, List.set_cons_zero, List.set_cons_succ]) | (refine plan_pass2 rfl rfl ?_; simp only [List.getElem_toArray, List.getElem_cons_succ, List.getElem_cons_zero, Act.put, List.setIfInBounds_toArray, List.set_cons_zero, List.set_cons_succ]) | (refine plan_pass3 rfl rfl ?_; simp only [List.getElem_toArray, List.getElem_cons_succ, List.getElem_cons_zero, Act.put, List.setIfInBounds_toArray, List.set_cons_zero, List.set_cons_succ]) | (refine plan_take (v := ?_) rfl rfl ?_ ?_; rotate_left; (focus (intro w0; go_simp; try with_reducible rfl)); simp only [List.getElem_toArray, List.getElem_cons_succ, List.getElem_cons_zero, Act.put, List.setIfInBounds_toArray, List.set_cons_zero, List.set_cons_succ]) | (refine plan_held (v := ?_) rfl rfl hS ?_ ?_; rotate_left; (focus (intro w0 hSw; (try dsimp only at hSw); go_split_ands; go_simp; try with_reducible rfl)); simp only [List.getElem_toArray, List.getElem_cons_succ, List.getElem_cons_zero, Act.put, List.setIfInBounds_toArray, List.set_cons_zero, List.set_cons_succ])  | (refine plan_skip1 rfl rfl hS ?_; simp only [List.getElem_toArray, List.getElem_cons_succ, List.getElem_cons_zero, Act.put, List.setIfInBounds_toArray, List.set_cons_zero, List.set_cons_succ]))
              try simp only [beq_eq_false_iff_ne.2 hk1, beq_eq_false_iff_ne.2 hk2, beq_eq_false_iff_ne.2 hk3, decide_eq_true hk4]
              repeat (first | (refine plan_skip rfl rfl ?_; simp only [List.getElem_toArray, List.getElem_cons_succ, List.getElem_cons_zero, Act.put, List.setIfInBounds_toArray, List.set_cons_zero, List.set_cons_succ]) | (refine plan_pass2 rfl rfl ?_; simp only [List.getElem_toArray, List.getElem_cons_succ, List.getElem_cons_zero, Act.put, List.setIfInBounds_toArray, List.set_cons_zero, List.set_cons_succ]) | (refine plan_pass3 rfl rfl ?_; simp only [List.getElem_toArray, List.getElem_cons_succ, List.getElem_cons_zero, Act.put, List.setIfInBounds_toArray, List.set_cons_zero, List.set_cons_succ]) | (refine plan_take (v := ?_) rfl rfl ?_ ?_; rotate_left; (focus (intro w0; go_simp; try with_reducible rfl)); simp only [List.getElem_toArray, List.getElem_cons_succ, List.getElem_cons_zero, Act.put, List.setIfInBounds_toArray, List.set_cons_zero, List.set_cons_succ]) | (refine plan_held (v := ?_) rfl rfl hS ?_ ?_; rotate_left; (focus (intro w0 hSw; (try dsimp only at hSw); go_split_ands; go_simp; try with_reducible rfl)); simp only [List.getElem_toArray, List.getElem_cons_succ, List.getElem_cons_zero, Act.put, List.setIfInBounds_toArray, List.set_cons_zero, List.set_cons_succ])  | (refine plan_skip1 rfl rfl hS ?_; simp only [List.getElem_toArray, List.getElem_cons_succ, List.getElem_cons_zero, Act.put, List.setIfInBounds_toArray, List.set_cons_zero, List.set_cons_succ]))
              try simp only [beq_eq_false_iff_ne.2 hk1, beq_eq_false_iff_ne.2 hk2, beq_eq_false_iff_ne.2 hk3, decide_eq_true hk4]
              repeat (first | (refine plan_skip rfl rfl ?_; simp only [List.getElem_toArray, List.getElem_cons_succ, List.getElem_cons_zero, Act.put, List.setIfInBounds_toArray, List.set_cons_zero, List.set_cons_succ]) | (refine plan_pass2 rfl rfl ?_; simp only [List.getElem_toArray, List.getElem_cons_succ, List.getElem_cons_zero, Act.put, List.setIfInBounds_toArray, List.set_cons_zero, List.set_cons_succ]) | (refine plan_pass3 rfl rfl ?_; simp only [List.getElem_toArray, List.getElem_cons_succ, List.getElem_cons_zero, Act.put, List.setIfInBounds_toArray, List.set_cons_zero, List.set_cons_succ]) | (refine plan_take (v := ?_) rfl rfl ?_ ?_; rotate_left; (focus (intro w0; go_simp; try with_reducible rfl)); simp only [List.getElem_toArray, List.getElem_cons_succ, List.getElem_cons_zero, Act.put, List.setIfInBounds_toArray, List.set_cons_zero, List.set_cons_succ]) | (refine plan_held (v := ?_) rfl rfl hS ?_ ?_; rotate_left; (focus (intro w0 hSw; (try dsimp only at hSw); go_split_ands; go_simp; try with_reducible rfl)); simp only [List.getElem_toArray, List.getElem_cons_succ, List.getElem_cons_zero, Act.put, List.setIfInBounds_toArray, List.set_cons_zero, List.set_cons_succ])  | (refine plan_skip1 rfl rfl hS ?_; simp only [List.getElem_toArray, List.getElem_cons_succ, List.getElem_cons_zero, Act.put, List.setIfInBounds_toArray, List.set_cons_zero, List.set_cons_succ]))
              (refine plan_do rfl rfl fun K hK => ?_; try simp only [List.getElem_toArray, List.getElem_cons_succ, List.getElem_cons_zero])
              go_simp
              refine (Ack_any p _ s.snd ak _ HRD.out hak0.1 hak0.2).mono ?_; rintro e w3 ⟨rfl, hr, hm⟩
              have hn1 : ¬ c1 pb = 1 := by rw [HP.out]; decide
              have hS3 : w3.cell? ⟨pb, 0, none⟩ = some (.int .i64 kd) ∧ w3.cell? ⟨pb, 1, none⟩ = some (.string cb) := ⟨hm.cell hn1 hS.1, hm.cell hn1 hS.2⟩
              refine hK _ _ hS3 ?_
              clear hK K hS
              try simp only [List.getElem_toArray, List.getElem_cons_succ, List.getElem_cons_zero, Act.put, List.setIfInBounds_toArray, List.set_cons_zero, List.set_cons_succ]
              rw [snd_acked, ← HAM.out]
              rw [HSA.out] at hr
              obtain ⟨c2, hC, hr, hx, hcp⟩ : ∃ c, Col w w3 c ∧ SndAt w3 p (fun k => c k = 1) s2.snd ∧ RefSAt w3 q (fun k => c k = 2) s ∧ c pb = 3 := ⟨_, HCD.out.step hm (by decide) 1, hr.mine HCD.out (by decide), HXD.out.away HCD.out hm (by decide) (by decide) 1, paint_away HCD.out (by decide) 1 pb HP.out (Nat.lt_of_lt_of_le hpl hm.size)⟩
              clear HCD HRD HXD HP hn1 hm
              have HCD := Lib.hid hC
              have HRD := Lib.hid hr
              have HXD := Lib.hid hx
              have HP := Lib.hid hcp
              clear hC hr hx hcp
              (refine plan_do rfl rfl fun K hK => ?_; try simp only [List.getElem_toArray, List.getElem_cons_succ, List.getElem_cons_zero])
              go_simp
              refine (RefAck_any q _ s ak _ HXD.out hak0.1 hak0.2).mono ?_; rintro e w4 ⟨rfl, hx, hm⟩
              have hn2 : ¬ c2 pb = 2 := by rw [HP.out]; decide
              have hS4 : w4.cell? ⟨pb, 0, none⟩ = some (.int .i64 kd) ∧ w4.cell? ⟨pb, 1, none⟩ = some (.string cb) := ⟨hm.cell hn2 hS3.1, hm.cell hn2 hS3.2⟩
              refine hK _ _ hS4 ?_
              clear hK K hS3
              try simp only [List.getElem_toArray, List.getElem_cons_succ, List.getElem_cons_zero, Act.put, List.setIfInBounds_toArray, List.set_cons_zero, List.set_cons_succ]
              rw [← HAM.out]
              rw [← HSE.out] at hx
              obtain ⟨wB, c3, hwB, hC, hr, hx, hl2, hf2⟩ : ∃ wB c, wB = w4 ∧ Col w wB c ∧ SndAt wB p (fun k => c k = 1) s2.snd ∧ RefSAt wB q (fun k => c k = 2) s2 ∧ s2.l.length ≤ j + 1 ∧ s2.first = a0 := ⟨w4, _, rfl, HCD.out.step hm (by decide) 2, HRD.out.away HCD.out hm (by decide) (by decide) 2, hx.stay HCD.out (by decide) 2, by rw [HSE.out]; show s.l.length ≤ _; omega, by rw [HSE.out]; exact HFI.out⟩
              rw [← hwB] at hS4 ⊢
              have HCE := Lib.hid hC
              have HRE := Lib.hid hr
              have HXE := Lib.hid hx
              clear hC hr hx hwB hm hn2 HCD HRD HXD HP HSE HAM HSA
              repeat (first | (refine plan_skip rfl rfl ?_; simp only [List.getElem_toArray, List.getElem_cons_succ, List.getElem_cons_zero, Act.put, List.setIfInBounds_toArray, List.set_cons_zero, List.set_cons_succ]) | (refine plan_pass2 rfl rfl ?_; simp only [List.getElem_toArray, List.getElem_cons_succ, List.getElem_cons_zero, Act.put, List.setIfInBounds_toArray, List.set_cons_zero, List.set_cons_succ]) | (refine plan_pass3 rfl rfl ?_; simp only [List.getElem_toArray, List.getElem_cons_succ, List.getElem_cons_zero, Act.put, List.setIfInBounds_toArray, List.set_cons_zero, List.set_cons_succ]) | (refine plan_take (v := ?_) rfl rfl ?_ ?_; rotate_left; (focus (intro w0; go_simp; try with_reducible rfl)); simp only [List.getElem_toArray, List.getElem_cons_succ, List.getElem_cons_zero, Act.put, List.setIfInBounds_toArray, List.set_cons_zero, List.set_cons_succ]) | (refine plan_held (v := ?_) rfl rfl hS4 ?_ ?_; rotate_left; (focus (intro w0 hSw; (try dsimp only at hSw); go_split_ands; go_simp; try with_reducible rfl)); simp only [List.getElem_toArray, List.getElem_cons_succ, List.getElem_cons_zero, Act.put, List.setIfInBounds_toArray, List.set_cons_zero, List.set_cons_succ])  | (refine plan_skip1 rfl rfl hS4 ?_; simp only [List.getElem_toArray, List.getElem_cons_succ, List.getElem_cons_zero, Act.put, List.setIfInBounds_toArray, List.set_cons_zero, List.set_cons_succ]))
              refine plan_nil ?_
              go_wp2_with fail
              try clear HCD
              try clear HRD
              try clear HXD
              try clear HP
              obtain ⟨_, _, hv12, hblk12, hrow12⟩ := HXE.out
              obtain ⟨ha12, hcap12, rfl, _, _, _⟩ := hrow12.form
              have kl : wB.drew.cell? ⟨q, 2, none⟩ = some (.slice ha12 s2.l.length hcap12) := cellOf hblk12 2
              have kd12 : wB.drew.cell? ⟨q, 3, none⟩ = some (.int .i64 s2.done) := cellOf hblk12 3
              clear hblk12 hrow12
              have HOK2 := Lib.hid HXE.out.1
              have hd2 := HOK2.out.d1
              have hs2 := HOK2.out.s1
              have hbl : s2.snd.bodies.length = s2.l.length - s2.done := by unfold RefS.snd; simp
              have HBL := Lib.hid hbl
              have hsub : IntKind.i64.wrap ((s2.l.length : Int) - (s2.done : Int)) = ((s2.l.length - s2.done : Nat) : Int) := by rw [IntWalk.i64_in _ (by omega)]; omega
              clear hbl
              refine wp_region_plan [] [(0, 0), (2, 0), (3, 0), (4, 0), (5, 1), (6, 0), (7, 0), (8, 0), (9, 0), (10, 1), (11, 0), (1, 2), (12, 0), (13, 0), (14, 0), (16, 0), (17, 0), (18, 0), (19, 0), (20, 1), (15, 2), (21, 2), (22, 0), (23, 0)] (fun w' : World => w'.cell? ⟨q, 2, none⟩ = some (.slice ha12 s2.l.length hcap12) ∧ w'.cell? ⟨q, 3, none⟩ = some (.int .i64 s2.done)) (by kernel_rfl) (by kernel_rfl) (fun d _ _ _ _ h => by cases d <;> exact h) ?_
              repeat (first | (refine plan_skip rfl rfl ?_; simp only [List.getElem_toArray, List.getElem_cons_succ, List.getElem_cons_zero, Act.put, List.setIfInBounds_toArray, List.set_cons_zero, List.set_cons_succ]) | (refine plan_pass2 rfl rfl ?_; simp only [List.getElem_toArray, List.getElem_cons_succ, List.getElem_cons_zero, Act.put, List.setIfInBounds_toArray, List.set_cons_zero, List.set_cons_succ]) | (refine plan_pass3 rfl rfl ?_; simp only [List.getElem_toArray, List.getElem_cons_succ, List.getElem_cons_zero, Act.put, List.setIfInBounds_toArray, List.set_cons_zero, List.set_cons_succ]) | (refine plan_take (v := ?_) rfl rfl ?_ ?_; rotate_left; (focus (intro w0; go_simp; try with_reducible rfl)); simp only [List.getElem_toArray, List.getElem_cons_succ, List.getElem_cons_zero, Act.put, List.setIfInBounds_toArray, List.set_cons_zero, List.set_cons_succ]) | (refine plan_held (v := ?_) rfl rfl ⟨kl, kd12⟩ ?_ ?_; rotate_left; (focus (intro w0 hSw; (try dsimp only at hSw); go_split_ands; go_simp; try with_reducible rfl)); simp only [List.getElem_toArray, List.getElem_cons_succ, List.getElem_cons_zero, Act.put, List.setIfInBounds_toArray, List.set_cons_zero, List.set_cons_succ])  | (refine plan_skip1 rfl rfl ⟨kl, kd12⟩ ?_; simp only [List.getElem_toArray, List.getElem_cons_succ, List.getElem_cons_zero, Act.put, List.setIfInBounds_toArray, List.set_cons_zero, List.set_cons_succ]))
              (refine plan_do rfl rfl fun K hK => ?_; try simp only [List.getElem_toArray, List.getElem_cons_succ, List.getElem_cons_zero])
              go_simp
              refine (Open_any p _ s2.snd _ HRE.out.drewS).mono ?_; rintro e w' ⟨rfl, rfl⟩
              refine hK _ _ ⟨kl, kd12⟩ ?_
              clear hK K
              try simp only [List.getElem_toArray, List.getElem_cons_succ, List.getElem_cons_zero, Act.put, List.setIfInBounds_toArray, List.set_cons_zero, List.set_cons_succ]
              rw [HBL.out]
              try simp only [hsub]
              repeat (first | (refine plan_skip rfl rfl ?_; simp only [List.getElem_toArray, List.getElem_cons_succ, List.getElem_cons_zero, Act.put, List.setIfInBounds_toArray, List.set_cons_zero, List.set_cons_succ]) | (refine plan_pass2 rfl rfl ?_; simp only [List.getElem_toArray, List.getElem_cons_succ, List.getElem_cons_zero, Act.put, List.setIfInBounds_toArray, List.set_cons_zero, List.set_cons_succ]) | (refine plan_pass3 rfl rfl ?_; simp only [List.getElem_toArray, List.getElem_cons_succ, List.getElem_cons_zero, Act.put, List.setIfInBounds_toArray, List.set_cons_zero, List.set_cons_succ]) | (refine plan_take (v := ?_) rfl rfl ?_ ?_; rotate_left; (focus (intro w0; go_simp; try with_reducible rfl)); simp only [List.getElem_toArray, List.getElem_cons_succ, List.getElem_cons_zero, Act.put, List.setIfInBounds_toArray, List.set_cons_zero, List.set_cons_succ]) | (refine plan_held (v := ?_) rfl rfl ⟨kl, kd12⟩ ?_ ?_; rotate_left; (focus (intro w0 hSw; (try dsimp only at hSw); go_split_ands; go_simp; try with_reducible rfl)); simp only [List.getElem_toArray, List.getElem_cons_succ, List.getElem_cons_zero, Act.put, List.setIfInBounds_toArray, List.set_cons_zero, List.set_cons_succ])  | (refine plan_skip1 rfl rfl ⟨kl, kd12⟩ ?_; simp only [List.getElem_toArray, List.getElem_cons_succ, List.getElem_cons_zero, Act.put, List.setIfInBounds_toArray, List.set_cons_zero, List.set_cons_succ]))
              (refine plan_do rfl rfl fun K hK => ?_; try simp only [List.getElem_toArray, List.getElem_cons_succ, List.getElem_cons_zero])
              go_simp
              refine (Base_any p _ s2.snd _ HRE.out.drewS).mono ?_; rintro e w' ⟨rfl, rfl⟩
              refine hK _ _ ⟨kl, kd12⟩ ?_
              clear hK K
              try simp only [List.getElem_toArray, List.getElem_cons_succ, List.getElem_cons_zero, Act.put, List.setIfInBounds_toArray, List.set_cons_zero, List.set_cons_succ]
              have hbs : Hid (s2.snd.base = Sr.add a0 s2.done) := Lib.hid (by unfold RefS.snd; rw [hf2])
              rw [hbs.out]
              repeat (first | (refine plan_skip rfl rfl ?_; simp only [List.getElem_toArray, List.getElem_cons_succ, List.getElem_cons_zero, Act.put, List.setIfInBounds_toArray, List.set_cons_zero, List.set_cons_succ]) | (refine plan_pass2 rfl rfl ?_; simp only [List.getElem_toArray, List.getElem_cons_succ, List.getElem_cons_zero, Act.put, List.setIfInBounds_toArray, List.set_cons_zero, List.set_cons_succ]) | (refine plan_pass3 rfl rfl ?_; simp only [List.getElem_toArray, List.getElem_cons_succ, List.getElem_cons_zero, Act.put, List.setIfInBounds_toArray, List.set_cons_zero, List.set_cons_succ]) | (refine plan_take (v := ?_) rfl rfl ?_ ?_; rotate_left; (focus (intro w0; go_simp; try with_reducible rfl)); simp only [List.getElem_toArray, List.getElem_cons_succ, List.getElem_cons_zero, Act.put, List.setIfInBounds_toArray, List.set_cons_zero, List.set_cons_succ]) | fail )
              (refine plan_do rfl rfl fun K hK => ?_; try simp only [List.getElem_toArray, List.getElem_cons_succ, List.getElem_cons_zero])
              go_simp
              refine (refAdd_any a0 s2.done h00 h01 (by omega) (by omega) _).mono ?_; rintro e w' ⟨rfl, rfl⟩
              refine hK _ _ ⟨kl, kd12⟩ ?_
              clear hK K
              try simp only [List.getElem_toArray, List.getElem_cons_succ, List.getElem_cons_zero, Act.put, List.setIfInBounds_toArray, List.set_cons_zero, List.set_cons_succ]
              repeat (first | (refine plan_skip rfl rfl ?_; simp only [List.getElem_toArray, List.getElem_cons_succ, List.getElem_cons_zero, Act.put, List.setIfInBounds_toArray, List.set_cons_zero, List.set_cons_succ]) | (refine plan_pass2 rfl rfl ?_; simp only [List.getElem_toArray, List.getElem_cons_succ, List.getElem_cons_zero, Act.put, List.setIfInBounds_toArray, List.set_cons_zero, List.set_cons_succ]) | (refine plan_pass3 rfl rfl ?_; simp only [List.getElem_toArray, List.getElem_cons_succ, List.getElem_cons_zero, Act.put, List.setIfInBounds_toArray, List.set_cons_zero, List.set_cons_succ]) | (refine plan_take (v := ?_) rfl rfl ?_ ?_; rotate_left; (focus (intro w0; go_simp; try with_reducible rfl)); simp only [List.getElem_toArray, List.getElem_cons_succ, List.getElem_cons_zero, Act.put, List.setIfInBounds_toArray, List.set_cons_zero, List.set_cons_succ]) | fail )
              refine plan_nil ?_
              have HL2 := Lib.hid hl2
              have HF2 := Lib.hid hf2
              clear kl kd12 hsub hd2 hs2 hl2 hf2
              go_wp2
              go_roundw
              case rel => exact ⟨j + 1, _, s2, by omega, by omega, by go_num, HCE.out.drew, HRE.out.drewS, HXE.out, HL2.out, HF2.out⟩
              case measure => simp [intOf]; omega
      · have hki : (j : Int) < (n : Int) := by omega
        have hki4 : ¬ (j : Int) < 40 := by omega
        have HM := Lib.hid HF.out.col.mod
        go_wp2_with fail
        refine (lives28_any _).mono ?_; rintro e w3 ⟨rfl, hm⟩
        have HM3 := Lib.hid (HM.out.trans hm fun _ f => f.elim)
        clear hm
        go_wp2
        go_ret
        exact ⟨rfl, HM3.out⟩
    · have hki : ¬ (j : Int) < (n : Int) := by omega
      have HM := Lib.hid HF.out.col.mod
      go_wp2_with fail
      refine (lives28_any _).mono ?_; rintro e w3 ⟨rfl, hm⟩
      have HM3 := Lib.hid (HM.out.trans hm fun _ f => f.elim)
      clear hm
      go_wp2
      go_ret
      exact ⟨rfl, HM3.out⟩
end Go.Proofs.Ytidkapanpieflaa
