/- WindowTakes: the walk. -/
import Derived.Test.YtidkapanpieflaaLives
namespace Go.Proofs.Ytidkapanpieflaa
open Go.RowKit
set_option linter.unusedVariables false
set_option linter.unusedSimpArgs false
/-- packets that can be read -/
def PkRow (w : World) (v : Value) (n : Nat) (l : Nat → Pkt) : Prop :=
  ∃ ad cap, v = .slice ad n cap ∧ n ≤ cap ∧ cap ≤ maxLen ∧ (0 < n → ∃ g o, ad = some ⟨g, o, none⟩ ∧ g < w.heap.size ∧ ∀ i, i < n → 0 ≤ (l i).seq ∧ (l i).seq < 4294967296 ∧ w.cell? ⟨g, o + i * 2, none⟩ = some (.int .u32 (l i).seq) ∧ w.cell? ⟨g, o + i * 2 + 1, none⟩ = some (.string (l i).body))
structure TakesAt (w wr : World) (p q j : Nat) (c : Nat → Nat) (s : RefR) : Prop where
  col : Col w wr c
  rcv : RcvAt wr p (fun k => c k = 1) s.rcv
  ref : RefRAt wr q (fun k => c k = 2) s
  n : s.n ≤ j * 64
theorem takes_walk (a0 a1 : Int) (h00 : 0 ≤ a0) (h01 : a0 < 4294967296) (v : Value) (n : Nat) (l : Nat → Pkt) (w : World) (hl : PkRow w v n l) :
    Calls Try.prog 4 #[.int .u32 a0, .int .i64 a1, v] w fun e w' => e = .returned (.bool true) ∧ Mod (fun _ => False) w w' := by
  obtain ⟨ad, cap, rfl, hn, hc, hg⟩ := hl
  have hn63 : n ≤ 9223372036854775807 := by unfold maxLen at hc; omega
  have HG := Lib.hid hg
  clear hg
  go_enter Try.func4, Try.ntmps4
  go_wp2_with fail
  refine (NewReceiver_any a0 a1 _ h00 h01).mono ?_; rintro e w1 ⟨p, rfl, hs, hm⟩
  obtain ⟨c1, hC, hs⟩ : ∃ c, Col w w1 c ∧ RcvAt w1 p (fun k => c k = 1) ⟨a0, Snd.width a1, []⟩ := ⟨_, (Col.start w).still hm 1, hs.born (fun _ => 0) 1⟩
  have HC := Lib.hid hC
  have HS := Lib.hid hs
  clear hC hs hm
  go_wp2_with fail
  refine (NewR_any a0 a1 _ h00 h01).mono ?_; rintro e w2 ⟨q, rfl, hr, hm⟩
  have hT : Hid (TakesAt w w2 p q 0 (paint c1 w1 w2 2) ⟨a0, Snd.width a1, 0, []⟩) := by
    refine Lib.hid ⟨HC.out.still hm 2, ?_, hr.born c1 2, Nat.zero_le _⟩
    have := HS.out.still HC.out hm (by decide) 2
    rw [show RefR.rcv ⟨a0, Snd.width a1, 0, []⟩ = (⟨a0, Snd.width a1, []⟩ : Rcv) by unfold RefR.rcv Sr.add; congr 1; simp; omega]
    exact this
  clear HC HS hr hm
  go_wp2_with fail
  go_loopw [9] (fun i wr => ∃ (j : Nat) (c : Nat → Nat) (s : RefR), j ≤ n ∧ j ≤ 40 ∧ i = .int .i64 j ∧ TakesAt w wr p q j c s) (fun i _ => n - (intOf i).toNat)
  case atStart => exact ⟨0, _, _, Nat.zero_le _, by decide, rfl, hT.out⟩
  case round =>
    obtain ⟨j, c, s, hj, hj40, rfl, hF⟩ := hrel
    have HF := Lib.hid hF
    clear hF hT
    have hki : ((j : Int) < (n : Int)) = (j < n) := by apply propext; omega
    have hki4 : ((j : Int) < 40) = (j < 40) := by apply propext; omega
    by_cases hlt : j < n
    · by_cases h40 : j < 40
      · obtain ⟨g, o, rfl, hgl, hcg⟩ := HG.out (by omega)
        obtain ⟨hs0, hs1, hc0, hc1⟩ := hcg j hlt
        have hne : ¬ c g = 1 := fun h => by have := HF.out.col.old g hgl; omega
        obtain ⟨pk, hpk⟩ : ∃ pk, pk = l j := ⟨_, rfl⟩
        rw [← hpk] at hs0 hs1 hc0 hc1
        have k0 : wr.cell? ⟨g, o + j * 2, none⟩ = some (.int .u32 pk.seq) := HF.out.col.mod.cell (fun f => f) hc0
        have k1 : wr.cell? ⟨g, o + j * 2 + 1, none⟩ = some (.string pk.body) := HF.out.col.mod.cell (fun f => f) hc1
        have hki : (j : Int) < (n : Int) := by omega
        have hki4 : (j : Int) < 40 := by omega
        clear hcg hc0 hc1 hpk
        go_wp2_with fail
        refine (Cut_any pk.body 8 (by decide) (by decide) _).mono ?_; rintro e w' ⟨rfl, rfl⟩
        obtain ⟨cb, hcb⟩ : ∃ cb, cb = cutB pk.body 8 := ⟨_, rfl⟩
        rw [← hcb]
        clear hcb
        go_wp2_with fail
        obtain ⟨wA, hwA⟩ : ∃ wA, wA = wr.alloc (.cells #[.int .u32 pk.seq, .string cb] 36) := ⟨_, rfl⟩
        rw [← hwA]
        have hm : Mod (fun _ => False) wr wA := hwA ▸ (Mod.refl _ _).alloc _
        have hbA := hwA ▸ allocNew wr (.cells #[.int .u32 pk.seq, .string cb] 36)
        have k0 : wA.cell? ⟨wr.heap.size, 0, none⟩ = some (.int .u32 pk.seq) := cellOf hbA 0
        have k1 : wA.cell? ⟨wr.heap.size, 1, none⟩ = some (.string cb) := cellOf hbA 1
        obtain ⟨pb, hpb⟩ : ∃ pb, pb = wr.heap.size := ⟨_, rfl⟩
        rw [← hpb] at k0 k1 ⊢
        have hpl : pb < wA.heap.size := hpb ▸ lt_of_block hbA
        obtain ⟨c1, hC, hr, hx, hcp⟩ : ∃ c1, Col w wA c1 ∧ RcvAt wA p (fun k => c1 k = 1) s.rcv ∧ RefRAt wA q (fun k => c1 k = 2) s ∧ c1 pb = 3 := ⟨_, HF.out.col.still hm 3, HF.out.rcv.still HF.out.col hm (by decide) 3, HF.out.ref.still HF.out.col hm (by decide) 3, paint_born c wr wA 3 pb (by omega) hpl⟩
        have HC := Lib.hid hC
        have HR := Lib.hid hr
        have HX := Lib.hid hx
        have HP := Lib.hid hcp
        have hnj := HF.out.n
        have HL1 := Lib.hid (hC.lt (i := 1) (by decide))
        clear hm hbA hwA hC hr hx hcp hpb
        have hS : wA.drew.cell? ⟨pb, 0, none⟩ = some (.int .u32 pk.seq) ∧ wA.drew.cell? ⟨pb, 1, none⟩ = some (.string cb) := ⟨k0, k1⟩
        clear k0 k1
        obtain ⟨pq, hpq⟩ : ∃ pq : Pkt, pq = ⟨pk.seq, cb⟩ := ⟨_, rfl⟩
        have hq0 : 0 ≤ pq.seq := by rw [hpq]; exact hs0
        have hq1 : pq.seq < 4294967296 := by rw [hpq]; exact hs1
        have HQ : Hid (pq.val = .agg #[.int .u32 pk.seq, .string cb]) := Lib.hid (by rw [hpq]; rfl)
        clear hpq
        refine wp_region_plan [] [(0, 0), (1, 1), (3, 0), (4, 1), (2, 2), (5, 2), (6, 2), (7, 0), (8, 0), (9, 0), (11, 0), (10, 2), (12, 2), (13, 0), (14, 0), (15, 0), (16, 0), (18, 0), (19, 0), (20, 0), (21, 1), (22, 0), (17, 2), (23, 0), (24, 0)] (fun w' : World => w'.cell? ⟨pb, 0, none⟩ = some (.int .u32 pk.seq) ∧ w'.cell? ⟨pb, 1, none⟩ = some (.string cb)) (by kernel_rfl) (by kernel_rfl) (fun d _ _ _ _ h => by cases d <;> exact h) ?_
        repeat (first | (refine plan_take (v := ?_) rfl rfl ?_ ?_; rotate_left; (focus (intro w0; go_simp; try with_reducible rfl)); simp only [List.getElem_toArray, List.getElem_cons_succ, List.getElem_cons_zero, Act.put, List.setIfInBounds_toArray, List.set_cons_zero, List.set_cons_succ]) | (refine plan_held (v := ?_) rfl rfl hS ?_ ?_; rotate_left; (focus (intro w0 hSw; (try dsimp only at hSw); go_split_ands; go_simp; try with_reducible rfl)); simp only [List.getElem_toArray, List.getElem_cons_succ, List.getElem_cons_zero, Act.put, List.setIfInBounds_toArray, List.set_cons_zero, List.set_cons_succ]) | (refine plan_skip rfl rfl ?_; simp only [List.getElem_toArray, List.getElem_cons_succ, List.getElem_cons_zero, Act.put, List.setIfInBounds_toArray, List.set_cons_zero, List.set_cons_succ]) | (refine plan_pass2 rfl rfl ?_; simp only [List.getElem_toArray, List.getElem_cons_succ, List.getElem_cons_zero, Act.put, List.setIfInBounds_toArray, List.set_cons_zero, List.set_cons_succ]) | (refine plan_pass3 rfl rfl ?_; simp only [List.getElem_toArray, List.getElem_cons_succ, List.getElem_cons_zero, Act.put, List.setIfInBounds_toArray, List.set_cons_zero, List.set_cons_succ]) | (refine plan_skip1 rfl rfl hS ?_; simp only [List.getElem_toArray, List.getElem_cons_succ, List.getElem_cons_zero, Act.put, List.setIfInBounds_toArray, List.set_cons_zero, List.set_cons_succ]))
        (refine plan_do rfl rfl fun K hK => ?_; try simp only [List.getElem_toArray, List.getElem_cons_succ, List.getElem_cons_zero])
        go_simp
        rw [← HQ.out]
        refine (Take_any p _ s.rcv pq _ (HR.out.keep ((Mod.refl (fun _ => False) wA).drew) (fun _ _ f => f)) hq0 hq1 HL1.out).mono ?_; rintro e w3 ⟨v1, rfl, hv1, hr, hm⟩
        have hn1 : ¬ c1 pb = 1 := by rw [HP.out]; decide
        have hS3 : w3.cell? ⟨pb, 0, none⟩ = some (.int .u32 pk.seq) ∧ w3.cell? ⟨pb, 1, none⟩ = some (.string cb) := ⟨hm.cell hn1 hS.1, hm.cell hn1 hS.2⟩
        refine hK _ _ hS3 ?_
        clear hK K hS
        try simp only [List.getElem_toArray, List.getElem_cons_succ, List.getElem_cons_zero, Act.put, List.setIfInBounds_toArray, List.set_cons_zero, List.set_cons_succ]
        replace hm := Mod.ofDrew hm
        obtain ⟨o1, ho1⟩ : ∃ o1, o1 = (s.rcv.take pq).1 := ⟨_, rfl⟩
        rw [← ho1] at hv1
        obtain ⟨c2, hC, hr, hx, hv1, hcp⟩ : ∃ c, Col w w3 c ∧ RcvAt w3 p (fun k => c k = 1) (s.rcv.take pq).2 ∧ RefRAt w3 q (fun k => c k = 2) s ∧ Row w3 (fun k => c k = 4) 9 1 v1 o1.length (o1.map .string) ∧ c pb = 3 := ⟨_, HC.out.step hm (by decide) 4, hr.stay (w := wA) HC.out (by decide) 4, HX.out.away HC.out hm (by decide) (by decide) 4, hv1.born (w := wA) c1 4, paint_away HC.out (by decide) 4 pb HP.out (Nat.lt_of_lt_of_le hpl hm.size)⟩
        have hpl3 := Nat.lt_of_lt_of_le hpl hm.size
        have HO1 := Lib.hid ho1
        clear HC HR HX HP HL1 ho1 hn1 hm
        have HC := Lib.hid hC
        have HR := Lib.hid hr
        have HX := Lib.hid hx
        have HP := Lib.hid hcp
        have HV1 := Lib.hid hv1
        have HL2 := Lib.hid (hC.lt (i := 2) (by decide))
        clear hC hr hx hcp hv1
        (refine plan_do rfl rfl fun K hK => ?_; try simp only [List.getElem_toArray, List.getElem_cons_succ, List.getElem_cons_zero])
        go_simp
        refine (RefTake_any q _ s pq _ HX.out hq0 hq1 HL2.out (by omega)).mono ?_; rintro e w4 ⟨v2, s', rfl, hv2, hx, hrc, hfi, hnn, hm⟩
        have hn2 : ¬ c2 pb = 2 := by rw [HP.out]; decide
        have hS4 : w4.cell? ⟨pb, 0, none⟩ = some (.int .u32 pk.seq) ∧ w4.cell? ⟨pb, 1, none⟩ = some (.string cb) := ⟨hm.cell hn2 hS3.1, hm.cell hn2 hS3.2⟩
        refine hK _ _ hS4 ?_
        clear hK K hS3
        try simp only [List.getElem_toArray, List.getElem_cons_succ, List.getElem_cons_zero, Act.put, List.setIfInBounds_toArray, List.set_cons_zero, List.set_cons_succ]
        rw [← HO1.out] at hv2
        obtain ⟨c3, hC, hr, hx, hv1, hv2⟩ : ∃ c, Col w w4 c ∧ RcvAt w4 p (fun k => c k = 1) s'.rcv ∧ RefRAt w4 q (fun k => c k = 2) s' ∧ Row w4 (fun k => c k = 4) 9 1 v1 o1.length (o1.map .string) ∧ Row w4 (fun k => c k = 2) 9 1 v2 o1.length (o1.map .string) := ⟨_, HC.out.step hm (by decide) 2, hrc ▸ HR.out.away HC.out hm (by decide) (by decide) 2, hx.mine HC.out (by decide), HV1.out.away HC.out hm (by decide) (by decide) 2, hv2.born c2 2⟩
        clear HC HR HX HP HL2 hn2 hm HV1 hrc hfi HO1
        have HC := Lib.hid hC
        have HR := Lib.hid hr
        have HX := Lib.hid hx
        have HV1 := Lib.hid hv1
        have HV2 := Lib.hid hv2
        clear hC hr hx hv1 hv2
        repeat (first | (refine plan_take (v := ?_) rfl rfl ?_ ?_; rotate_left; (focus (intro w0; go_simp; try with_reducible rfl)); simp only [List.getElem_toArray, List.getElem_cons_succ, List.getElem_cons_zero, Act.put, List.setIfInBounds_toArray, List.set_cons_zero, List.set_cons_succ]) | (refine plan_held (v := ?_) rfl rfl hS4 ?_ ?_; rotate_left; (focus (intro w0 hSw; (try dsimp only at hSw); go_split_ands; go_simp; try with_reducible rfl)); simp only [List.getElem_toArray, List.getElem_cons_succ, List.getElem_cons_zero, Act.put, List.setIfInBounds_toArray, List.set_cons_zero, List.set_cons_succ]) | (refine plan_skip rfl rfl ?_; simp only [List.getElem_toArray, List.getElem_cons_succ, List.getElem_cons_zero, Act.put, List.setIfInBounds_toArray, List.set_cons_zero, List.set_cons_succ]) | (refine plan_pass2 rfl rfl ?_; simp only [List.getElem_toArray, List.getElem_cons_succ, List.getElem_cons_zero, Act.put, List.setIfInBounds_toArray, List.set_cons_zero, List.set_cons_succ]) | (refine plan_pass3 rfl rfl ?_; simp only [List.getElem_toArray, List.getElem_cons_succ, List.getElem_cons_zero, Act.put, List.setIfInBounds_toArray, List.set_cons_zero, List.set_cons_succ]) | (refine plan_skip1 rfl rfl hS4 ?_; simp only [List.getElem_toArray, List.getElem_cons_succ, List.getElem_cons_zero, Act.put, List.setIfInBounds_toArray, List.set_cons_zero, List.set_cons_succ]))
        (refine plan_do rfl rfl fun K hK => ?_; try simp only [List.getElem_toArray, List.getElem_cons_succ, List.getElem_cons_zero])
        go_simp
        refine (SameStr_any _ _ o1 o1 _ HV1.out.reads HV2.out.reads).mono ?_; rintro e w5 ⟨rfl, hm⟩
        have hS5 : w5.cell? ⟨pb, 0, none⟩ = some (.int .u32 pk.seq) ∧ w5.cell? ⟨pb, 1, none⟩ = some (.string cb) := ⟨hm.cell (fun f => f) hS4.1, hm.cell (fun f => f) hS4.2⟩
        refine hK _ _ hS5 ?_
        clear hK K hS4
        try simp only [List.getElem_toArray, List.getElem_cons_succ, List.getElem_cons_zero, Act.put, List.setIfInBounds_toArray, List.set_cons_zero, List.set_cons_succ]
        simp only [decide_true]
        obtain ⟨c4, hC, hr, hx⟩ : ∃ c, Col w w5 c ∧ RcvAt w5 p (fun k => c k = 1) s'.rcv ∧ RefRAt w5 q (fun k => c k = 2) s' := ⟨_, HC.out.still hm 6, HR.out.still HC.out hm (by decide) 6, HX.out.still HC.out hm (by decide) 6⟩
        clear HC HR HX HV1 HV2 hm
        have HC := Lib.hid hC
        have HR := Lib.hid hr
        have HX := Lib.hid hx
        clear hC hr hx
        repeat (first | (refine plan_take (v := ?_) rfl rfl ?_ ?_; rotate_left; (focus (intro w0; go_simp; try with_reducible rfl)); simp only [List.getElem_toArray, List.getElem_cons_succ, List.getElem_cons_zero, Act.put, List.setIfInBounds_toArray, List.set_cons_zero, List.set_cons_succ]) | (refine plan_skip rfl rfl ?_; simp only [List.getElem_toArray, List.getElem_cons_succ, List.getElem_cons_zero, Act.put, List.setIfInBounds_toArray, List.set_cons_zero, List.set_cons_succ]) | (refine plan_pass2 rfl rfl ?_; simp only [List.getElem_toArray, List.getElem_cons_succ, List.getElem_cons_zero, Act.put, List.setIfInBounds_toArray, List.set_cons_zero, List.set_cons_succ]) | (refine plan_pass3 rfl rfl ?_; simp only [List.getElem_toArray, List.getElem_cons_succ, List.getElem_cons_zero, Act.put, List.setIfInBounds_toArray, List.set_cons_zero, List.set_cons_succ]))
        (refine plan_do rfl rfl fun K hK => ?_; try simp only [List.getElem_toArray, List.getElem_cons_succ, List.getElem_cons_zero])
        go_simp
        refine (Next_any p _ s'.rcv _ HR.out).mono ?_; rintro e w' ⟨rfl, rfl⟩
        refine hK _ _ hS5 ?_
        clear hK K
        try simp only [List.getElem_toArray, List.getElem_cons_succ, List.getElem_cons_zero, Act.put, List.setIfInBounds_toArray, List.set_cons_zero, List.set_cons_succ]
        repeat (first | (refine plan_take (v := ?_) rfl rfl ?_ ?_; rotate_left; (focus (intro w0; go_simp; try with_reducible rfl)); simp only [List.getElem_toArray, List.getElem_cons_succ, List.getElem_cons_zero, Act.put, List.setIfInBounds_toArray, List.set_cons_zero, List.set_cons_succ]) | (refine plan_skip rfl rfl ?_; simp only [List.getElem_toArray, List.getElem_cons_succ, List.getElem_cons_zero, Act.put, List.setIfInBounds_toArray, List.set_cons_zero, List.set_cons_succ]) | (refine plan_pass2 rfl rfl ?_; simp only [List.getElem_toArray, List.getElem_cons_succ, List.getElem_cons_zero, Act.put, List.setIfInBounds_toArray, List.set_cons_zero, List.set_cons_succ]) | (refine plan_pass3 rfl rfl ?_; simp only [List.getElem_toArray, List.getElem_cons_succ, List.getElem_cons_zero, Act.put, List.setIfInBounds_toArray, List.set_cons_zero, List.set_cons_succ]))
        (refine plan_do rfl rfl fun K hK => ?_; try simp only [List.getElem_toArray, List.getElem_cons_succ, List.getElem_cons_zero])
        go_simp
        refine (RefNext_any q _ s' _ HX.out).mono ?_; rintro e w' ⟨rfl, rfl⟩
        refine hK _ _ hS5 ?_
        clear hK K
        try simp only [List.getElem_toArray, List.getElem_cons_succ, List.getElem_cons_zero, Act.put, List.setIfInBounds_toArray, List.set_cons_zero, List.set_cons_succ]
        repeat (first | (refine plan_take (v := ?_) rfl rfl ?_ ?_; rotate_left; (focus (intro w0; go_simp; try with_reducible rfl)); simp only [List.getElem_toArray, List.getElem_cons_succ, List.getElem_cons_zero, Act.put, List.setIfInBounds_toArray, List.set_cons_zero, List.set_cons_succ]) | (refine plan_skip rfl rfl ?_; simp only [List.getElem_toArray, List.getElem_cons_succ, List.getElem_cons_zero, Act.put, List.setIfInBounds_toArray, List.set_cons_zero, List.set_cons_succ]) | (refine plan_pass2 rfl rfl ?_; simp only [List.getElem_toArray, List.getElem_cons_succ, List.getElem_cons_zero, Act.put, List.setIfInBounds_toArray, List.set_cons_zero, List.set_cons_succ]) | (refine plan_pass3 rfl rfl ?_; simp only [List.getElem_toArray, List.getElem_cons_succ, List.getElem_cons_zero, Act.put, List.setIfInBounds_toArray, List.set_cons_zero, List.set_cons_succ]))
        obtain ⟨_, _, hv, hblk, hrow⟩ := HX.out
        obtain ⟨ha, hcap, rfl, _, _, _⟩ := hrow.form
        have kx : w5.drew.cell? ⟨q, 3, none⟩ = some (.slice ha s'.held.length hcap) := cellOf hblk 3
        refine plan_more (v := .slice ha s'.held.length hcap) (fun w' : World => (w'.cell? ⟨pb, 0, none⟩ = some (.int .u32 pk.seq) ∧ w'.cell? ⟨pb, 1, none⟩ = some (.string cb)) ∧ w'.cell? ⟨q, 3, none⟩ = some (.slice ha s'.held.length hcap)) (fun _ h => h.1) rfl rfl ⟨hS5, kx⟩ (fun w0 hSw => ?_) ?_
        · obtain ⟨_, k⟩ := hSw
          go_simp
        try simp only [List.getElem_toArray, List.getElem_cons_succ, List.getElem_cons_zero, Act.put, List.setIfInBounds_toArray, List.set_cons_zero, List.set_cons_succ]
        repeat (first | (refine plan_take (v := ?_) rfl rfl ?_ ?_; rotate_left; (focus (intro w0; go_simp; try with_reducible rfl)); simp only [List.getElem_toArray, List.getElem_cons_succ, List.getElem_cons_zero, Act.put, List.setIfInBounds_toArray, List.set_cons_zero, List.set_cons_succ]) | (refine plan_skip rfl rfl ?_; simp only [List.getElem_toArray, List.getElem_cons_succ, List.getElem_cons_zero, Act.put, List.setIfInBounds_toArray, List.set_cons_zero, List.set_cons_succ]) | (refine plan_pass2 rfl rfl ?_; simp only [List.getElem_toArray, List.getElem_cons_succ, List.getElem_cons_zero, Act.put, List.setIfInBounds_toArray, List.set_cons_zero, List.set_cons_succ]) | (refine plan_pass3 rfl rfl ?_; simp only [List.getElem_toArray, List.getElem_cons_succ, List.getElem_cons_zero, Act.put, List.setIfInBounds_toArray, List.set_cons_zero, List.set_cons_succ]))
        (refine plan_do rfl rfl fun K hK => ?_; try simp only [List.getElem_toArray, List.getElem_cons_succ, List.getElem_cons_zero])
        go_simp
        refine (Held_any p _ s'.rcv _ (HR.out.keep ((Mod.refl (fun _ => False) w5).drew) (fun _ _ f => f))).mono ?_; rintro e w' ⟨rfl, rfl⟩
        refine hK _ _ ⟨hS5, kx⟩ ?_
        clear hK K
        try simp only [List.getElem_toArray, List.getElem_cons_succ, List.getElem_cons_zero, Act.put, List.setIfInBounds_toArray, List.set_cons_zero, List.set_cons_succ]
        have hhl : s'.rcv.held.length = s'.held.length := rfl
        rw [hhl]
        clear hblk hrow hS5 kx hhl
        repeat (first | (refine plan_take (v := ?_) rfl rfl ?_ ?_; rotate_left; (focus (intro w0; go_simp; try with_reducible rfl)); simp only [List.getElem_toArray, List.getElem_cons_succ, List.getElem_cons_zero, Act.put, List.setIfInBounds_toArray, List.set_cons_zero, List.set_cons_succ]) | (refine plan_skip rfl rfl ?_; simp only [List.getElem_toArray, List.getElem_cons_succ, List.getElem_cons_zero, Act.put, List.setIfInBounds_toArray, List.set_cons_zero, List.set_cons_succ]) | (refine plan_pass2 rfl rfl ?_; simp only [List.getElem_toArray, List.getElem_cons_succ, List.getElem_cons_zero, Act.put, List.setIfInBounds_toArray, List.set_cons_zero, List.set_cons_succ]) | (refine plan_pass3 rfl rfl ?_; simp only [List.getElem_toArray, List.getElem_cons_succ, List.getElem_cons_zero, Act.put, List.setIfInBounds_toArray, List.set_cons_zero, List.set_cons_succ]))
        refine plan_nil ?_
        go_wp2
        go_roundw
        case rel => exact ⟨j + 1, c4, s', by omega, by omega, by go_num, HC.out.drew, HR.out.keep ((Mod.refl (fun _ => False) w5).drew) (fun _ _ f => f), HX.out.drew, by omega⟩
        case measure => simp [intOf]; omega
      · have hki : (j : Int) < (n : Int) := by omega
        have hki4 : ¬ (j : Int) < 40 := by omega
        have HM := Lib.hid HF.out.col.mod
        go_wp2_with fail
        refine (lives28_any _).mono ?_; rintro e w3 ⟨rfl, hm⟩
        have HM3 := Lib.hid (HM.out.trans hm fun _ f => f.elim)
        clear hm
        go_wp2
        go_ret
        exact ⟨rfl, HM3.out⟩
    · have hki : ¬ (j : Int) < (n : Int) := by omega
      have HM := Lib.hid HF.out.col.mod
      go_wp2_with fail
      refine (lives28_any _).mono ?_; rintro e w3 ⟨rfl, hm⟩
      have HM3 := Lib.hid (HM.out.trans hm fun _ f => f.elim)
      clear hm
      go_wp2
      go_ret
      exact ⟨rfl, HM3.out⟩
end Go.Proofs.Ytidkapanpieflaa
