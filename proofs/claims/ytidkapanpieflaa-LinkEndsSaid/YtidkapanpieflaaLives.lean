/- A window lives. -/
import Derived.Test.YtidkapanpieflaaOwn
namespace Go.Proofs.Ytidkapanpieflaa
open Go.RowKit
set_option linter.unusedVariables false
set_option linter.unusedSimpArgs false
def lv0 : Snd := ⟨4294967295, [], 0, Snd.width 2⟩
def lvR : Rcv := ⟨4294967295, Snd.width 2, []⟩
def lvA : ByteArray := ⟨#[97]⟩
def lvB : ByteArray := ⟨#[98]⟩
def lvC : ByteArray := ⟨#[99]⟩
def lv3 : Snd := ((lv0.push lvA).push lvB).push lvC
def lvP : Pkt := ⟨4294967295, lvA⟩
def lvQ : Pkt := ⟨0, lvB⟩
def lvR1 : Rcv := ⟨4294967295, 2, [lvQ]⟩
def lvR2 : Rcv := ⟨1, 2, []⟩
theorem lv_news : lv3.news = [lvP, lvQ] := rfl
theorem lv_take1 : lvR.take lvQ = ([], lvR1) := rfl
theorem lv_take2 : lvR1.take lvP = ([lvA, lvB], lvR2) := rfl
theorem lv_acked : (lv3.send).acked 1 = 2 := rfl
theorem lv_open : ((lv3.send).ack 1).bodies.length = 1 := rfl
set_option maxRecDepth 100000 in
theorem lives28_any (w : World) : Calls Try.prog 16 #[] w fun e w' => e = .returned (.bool true) ∧ Mod (fun _ => False) w w' := by
  go_enter Try.func16, Try.ntmps16
  go_wp2_with fail
  refine (NewSender_any 4294967295 2 _ (by decide) (by decide)).mono ?_; rintro e w1 ⟨p, rfl, hs, hm⟩
  obtain ⟨c1, hC, hs⟩ : ∃ c, Col w w1 c ∧ SndAt w1 p (fun k => c k = 1) lv0 := ⟨_, (Col.start w).still hm 1, hs.born (fun _ => 0) 1⟩
  have HC := Lib.hid hC
  have HS := Lib.hid hs
  clear hC hs hm
  go_wp2_with fail
  refine (NewReceiver_any 4294967295 2 _ (by decide) (by decide)).mono ?_; rintro e w2 ⟨q, rfl, hr, hm⟩
  obtain ⟨c2, hC, hs, hr⟩ : ∃ c, Col w w2 c ∧ SndAt w2 p (fun k => c k = 1) lv0 ∧ RcvAt w2 q (fun k => c k = 2) lvR := ⟨_, HC.out.still hm 2, HS.out.still HC.out hm (by decide) 2, hr.born c1 2⟩
  clear HC HS
  have HC := Lib.hid hC
  have HS := Lib.hid hs
  have HR := Lib.hid hr
  clear hC hs hr hm
  go_wp2_with fail
  refine (Push_any p _ lv0 lvA _ HS.out).mono ?_; rintro e w3 ⟨rfl, hs, hm⟩
  obtain ⟨c3, hC, hs, hr⟩ : ∃ c, Col w w3 c ∧ SndAt w3 p (fun k => c k = 1) (lv0.push lvA) ∧ RcvAt w3 q (fun k => c k = 2) lvR := ⟨_, HC.out.step hm (by decide) 1, hs.mine HC.out (by decide), HR.out.away HC.out hm (by decide) (by decide) 1⟩
  clear HC HS HR
  have HC := Lib.hid hC
  have HS := Lib.hid hs
  have HR := Lib.hid hr
  clear hC hs hr hm
  go_wp2_with fail
  refine (Push_any p _ (lv0.push lvA) lvB _ HS.out).mono ?_; rintro e w4 ⟨rfl, hs, hm⟩
  obtain ⟨c4, hC, hs, hr⟩ : ∃ c, Col w w4 c ∧ SndAt w4 p (fun k => c k = 1) ((lv0.push lvA).push lvB) ∧ RcvAt w4 q (fun k => c k = 2) lvR := ⟨_, HC.out.step hm (by decide) 1, hs.mine HC.out (by decide), HR.out.away HC.out hm (by decide) (by decide) 1⟩
  clear HC HS HR
  have HC := Lib.hid hC
  have HS := Lib.hid hs
  have HR := Lib.hid hr
  clear hC hs hr hm
  go_wp2_with fail
  refine (Push_any p _ ((lv0.push lvA).push lvB) lvC _ HS.out).mono ?_; rintro e w5 ⟨rfl, hs, hm⟩
  obtain ⟨c5, hC, hs, hr⟩ : ∃ c, Col w w5 c ∧ SndAt w5 p (fun k => c k = 1) lv3 ∧ RcvAt w5 q (fun k => c k = 2) lvR := ⟨_, HC.out.step hm (by decide) 1, hs.mine HC.out (by decide), HR.out.away HC.out hm (by decide) (by decide) 1⟩
  clear HC HS HR
  have HC := Lib.hid hC
  have HS := Lib.hid hs
  have HR := Lib.hid hr
  clear hC hs hr hm
  go_wp2_with fail
  refine (Send_any p _ lv3 _ HS.out).mono ?_; rintro e w6 ⟨v, rfl, hv, hs, hm⟩
  rw [lv_news] at hv
  obtain ⟨c6, hC, hs, hr, hv⟩ : ∃ c, Col w w6 c ∧ SndAt w6 p (fun k => c k = 1) lv3.send ∧ RcvAt w6 q (fun k => c k = 2) lvR ∧ Row w6 (fun k => c k = 3) 36 2 v 2 (Pkt.vals [lvP, lvQ]) := ⟨_, HC.out.step hm (by decide) 3, hs.stay HC.out (by decide) 3, HR.out.away HC.out hm (by decide) (by decide) 3, hv.born c5 3⟩
  clear HC HS HR
  obtain ⟨ad, cap, rfl, hn, hc, hg⟩ := hv.form
  obtain ⟨g, rfl, hfg, hlg, hcg⟩ := hg (by decide)
  have hV : Hid (∀ i u, (Pkt.vals [lvP, lvQ])[i]? = some u → w6.cell? ⟨g, i, none⟩ = some u) := Lib.hid hcg
  have k0 : w6.cell? ⟨g, 0, none⟩ = some (.int .u32 4294967295) := hcg 0 _ rfl
  have k1 : w6.cell? ⟨g, 1, none⟩ = some (.string lvA) := hcg 1 _ rfl
  have k2 : w6.cell? ⟨g, 2, none⟩ = some (.int .u32 0) := hcg 2 _ rfl
  have k3 : w6.cell? ⟨g, 3, none⟩ = some (.string lvB) := hcg 3 _ rfl
  have n3 := Lib.hid hfg
  have HC := Lib.hid hC
  have HS := Lib.hid hs
  have HR := Lib.hid hr
  have hlt2 := Lib.hid (hC.lt (i := 2) (by decide))
  clear hC hs hr hm hg hcg hfg hv
  go_wp2
  have hS : w6.drew.cell? ⟨g, 0, none⟩ = some (.int .u32 4294967295) ∧ w6.drew.cell? ⟨g, 1, none⟩ = some (.string lvA) ∧ w6.drew.cell? ⟨g, 2, none⟩ = some (.int .u32 0) ∧ w6.drew.cell? ⟨g, 3, none⟩ = some (.string lvB) := ⟨k0, k1, k2, k3⟩
  refine wp_region_plan [] [(0, 0), (1, 0), (2, 0), (3, 1), (5, 0), (6, 0), (7, 0), (8, 1), (4, 2), (9, 2), (10, 0), (11, 0)] (fun w' : World => w'.cell? ⟨g, 0, none⟩ = some (.int .u32 4294967295) ∧ w'.cell? ⟨g, 1, none⟩ = some (.string lvA) ∧ w'.cell? ⟨g, 2, none⟩ = some (.int .u32 0) ∧ w'.cell? ⟨g, 3, none⟩ = some (.string lvB)) (by kernel_rfl) (by kernel_rfl) (fun d _ _ _ _ h => by cases d <;> exact h) ?_
  repeat (first | (refine plan_take (v := ?_) rfl rfl ?_ ?_; rotate_left; (focus (intro w0; go_simp; try with_reducible rfl)); simp only [List.getElem_toArray, List.getElem_cons_succ, List.getElem_cons_zero, Act.put, List.setIfInBounds_toArray, List.set_cons_zero, List.set_cons_succ]) | (refine plan_held (v := ?_) rfl rfl hS ?_ ?_; rotate_left; (focus (intro w0 hSw; (try dsimp only at hSw); go_split_ands; go_simp; try with_reducible rfl)); simp only [List.getElem_toArray, List.getElem_cons_succ, List.getElem_cons_zero, Act.put, List.setIfInBounds_toArray, List.set_cons_zero, List.set_cons_succ]) | (refine plan_skip rfl rfl ?_; simp only [List.getElem_toArray, List.getElem_cons_succ, List.getElem_cons_zero, Act.put, List.setIfInBounds_toArray, List.set_cons_zero, List.set_cons_succ]) | (refine plan_pass2 rfl rfl ?_; simp only [List.getElem_toArray, List.getElem_cons_succ, List.getElem_cons_zero, Act.put, List.setIfInBounds_toArray, List.set_cons_zero, List.set_cons_succ]) | (refine plan_pass3 rfl rfl ?_; simp only [List.getElem_toArray, List.getElem_cons_succ, List.getElem_cons_zero, Act.put, List.setIfInBounds_toArray, List.set_cons_zero, List.set_cons_succ]) | (refine plan_skip1 rfl rfl hS ?_; simp only [List.getElem_toArray, List.getElem_cons_succ, List.getElem_cons_zero, Act.put, List.setIfInBounds_toArray, List.set_cons_zero, List.set_cons_succ]))
  (refine plan_do rfl rfl fun K hK => ?_; try simp only [List.getElem_toArray, List.getElem_cons_succ, List.getElem_cons_zero])
  go_simp
  refine (Take_any q _ lvR lvQ _ (HR.out.keep ((Mod.refl (fun _ => False) w6).drew) (fun _ _ f => f)) (by decide) (by decide) hlt2.out).mono ?_; rintro e w7 ⟨v1, rfl, hv1, hr, hm⟩
  have n31 : ¬ c6 g = 2 := by rw [n3.out]; decide
  have hS : w7.cell? ⟨g, 0, none⟩ = some (.int .u32 4294967295) ∧ w7.cell? ⟨g, 1, none⟩ = some (.string lvA) ∧ w7.cell? ⟨g, 2, none⟩ = some (.int .u32 0) ∧ w7.cell? ⟨g, 3, none⟩ = some (.string lvB) := ⟨hm.cell n31 k0, hm.cell n31 k1, hm.cell n31 k2, hm.cell n31 k3⟩
  refine hK _ _ hS ?_
  clear hK K
  try simp only [List.getElem_toArray, List.getElem_cons_succ, List.getElem_cons_zero, Act.put, List.setIfInBounds_toArray, List.set_cons_zero, List.set_cons_succ]
  rw [lv_take1] at hv1 hr
  replace hm := Mod.ofDrew hm
  obtain ⟨c7, hC, hs, hr, hv1, n4⟩ : ∃ c, Col w w7 c ∧ SndAt w7 p (fun k => c k = 1) lv3.send ∧ RcvAt w7 q (fun k => c k = 2) lvR1 ∧ Row w7 (fun k => c k = 4) 9 1 v1 0 [] ∧ c g = 3 := ⟨_, HC.out.step hm (by decide) 4, HS.out.away HC.out hm (by decide) (by decide) 4, hr.stay (w := w6) HC.out (by decide) 4, hv1.born (w := w6) c6 4, paint_away HC.out (by decide) 4 g n3.out (Nat.lt_of_lt_of_le hlg hm.size)⟩
  clear HC HS HR hlt2 k0 k1 k2 k3 n3 n31
  have n3 := Lib.hid n4
  have HC := Lib.hid hC
  have HS := Lib.hid hs
  have HR := Lib.hid hr
  have HV1 := Lib.hid hv1
  have hlt2 := Lib.hid (hC.lt (i := 2) (by decide))
  clear hC hs hr hv1 hm n4
  (refine plan_do rfl rfl fun K hK => ?_; try simp only [List.getElem_toArray, List.getElem_cons_succ, List.getElem_cons_zero])
  go_simp
  refine (Take_any q _ lvR1 lvP _ HR.out (by decide) (by decide) hlt2.out).mono ?_; rintro e w8 ⟨v2, rfl, hv2, hr, hm⟩
  have n31 : ¬ c7 g = 2 := by rw [n3.out]; decide
  have hS : w8.cell? ⟨g, 0, none⟩ = some (.int .u32 4294967295) ∧ w8.cell? ⟨g, 1, none⟩ = some (.string lvA) ∧ w8.cell? ⟨g, 2, none⟩ = some (.int .u32 0) ∧ w8.cell? ⟨g, 3, none⟩ = some (.string lvB) := ⟨hm.cell n31 hS.1, hm.cell n31 hS.2.1, hm.cell n31 hS.2.2.1, hm.cell n31 hS.2.2.2⟩
  refine hK _ _ hS ?_
  clear hK K
  try simp only [List.getElem_toArray, List.getElem_cons_succ, List.getElem_cons_zero, Act.put, List.setIfInBounds_toArray, List.set_cons_zero, List.set_cons_succ]
  rw [lv_take2] at hv2 hr
  obtain ⟨c8, hC, hs, hr, hv1, hv2⟩ : ∃ c, Col w w8 c ∧ SndAt w8 p (fun k => c k = 1) lv3.send ∧ RcvAt w8 q (fun k => c k = 2) lvR2 ∧ Row w8 (fun k => c k = 4) 9 1 v1 0 [] ∧ Row w8 (fun k => c k = 5) 9 1 v2 2 [.string lvA, .string lvB] := ⟨_, HC.out.step hm (by decide) 5, HS.out.away HC.out hm (by decide) (by decide) 5, hr.stay (w := w7) HC.out (by decide) 5, HV1.out.away HC.out hm (by decide) (by decide) 5, hv2.born (w := w7) c7 5⟩
  clear HC HS HR HV1 hlt2 n3 n31
  obtain ⟨a1, cap1, rfl, hn1, hc1, hg1⟩ := hv1.form
  obtain ⟨a2, cap2, rfl, hn2, hc2, hg2⟩ := hv2.form
  have HC := Lib.hid hC
  have HS := Lib.hid hs
  have HR := Lib.hid hr
  have HV2 := Lib.hid hv2
  clear hC hs hr hv1 hm hv2 hg1 hg2 hS
  repeat (first | (refine plan_take (v := ?_) rfl rfl ?_ ?_; rotate_left; (focus (intro w0; go_simp; try with_reducible rfl)); simp only [List.getElem_toArray, List.getElem_cons_succ, List.getElem_cons_zero, Act.put, List.setIfInBounds_toArray, List.set_cons_zero, List.set_cons_succ]) | (refine plan_skip rfl rfl ?_; simp only [List.getElem_toArray, List.getElem_cons_succ, List.getElem_cons_zero, Act.put, List.setIfInBounds_toArray, List.set_cons_zero, List.set_cons_succ]) | (refine plan_pass2 rfl rfl ?_; simp only [List.getElem_toArray, List.getElem_cons_succ, List.getElem_cons_zero, Act.put, List.setIfInBounds_toArray, List.set_cons_zero, List.set_cons_succ]) | (refine plan_pass3 rfl rfl ?_; simp only [List.getElem_toArray, List.getElem_cons_succ, List.getElem_cons_zero, Act.put, List.setIfInBounds_toArray, List.set_cons_zero, List.set_cons_succ]))
  refine plan_nil ?_
  go_wp2_with fail
  have hmA : Mod (fun _ => False) w8 (w8.alloc (.cells #[.string ⟨#[97]⟩, .string ⟨#[98]⟩] 9)) := (Mod.refl _ _).alloc _
  have hrA : Row (w8.alloc (.cells #[.string ⟨#[97]⟩, .string ⟨#[98]⟩] 9)) (fun _ => True) 9 1 (.slice (some ⟨w8.heap.size, 0, none⟩) 2 2) 2 [.string lvA, .string lvB] := Row.made (cur := #[.string ⟨#[97]⟩, .string ⟨#[98]⟩]) (allocNew w8 _) rfl (by unfold maxLen; omega) trivial
  refine (SameStr_any _ _ [lvA, lvB] [lvA, lvB] _ (Row.reads (n := 2) (HV2.out.keep hmA (fun _ _ f => f))) (Row.reads (n := 2) hrA)).mono ?_; rintro e w9 ⟨rfl, hm9⟩
  replace hm9 := hmA.trans hm9 (fun _ f => f.elim)
  obtain ⟨c9, hC, hs, hr⟩ : ∃ c, Col w w9 c ∧ SndAt w9 p (fun k => c k = 1) lv3.send ∧ RcvAt w9 q (fun k => c k = 2) lvR2 := ⟨_, HC.out.still hm9 6, HS.out.still HC.out hm9 (by decide) 6, HR.out.still HC.out hm9 (by decide) 6⟩
  clear HC HS HR HV2 hmA hrA hm9
  have HC := Lib.hid hC
  have HS := Lib.hid hs
  have HR := Lib.hid hr
  clear hC hs hr
  have hd : (decide ([lvA, lvB] = [lvA, lvB])) = true := decide_eq_true rfl
  rw [hd]
  go_wp2_with fail
  refine (Next_any q _ lvR2 _ HR.out).mono ?_; rintro e w' ⟨rfl, rfl⟩
  go_wp2_with fail
  refine (Ack_any p _ lv3.send 1 _ HS.out (by decide) (by decide)).mono ?_; rintro e w10 ⟨rfl, hs, hm⟩
  obtain ⟨c10, hC, hs⟩ : ∃ c, Col w w10 c ∧ SndAt w10 p (fun k => c k = 1) (lv3.send.ack 1) := ⟨_, HC.out.step hm (by decide) 1, hs.mine HC.out (by decide)⟩
  clear HC HS HR
  have HC := Lib.hid hC
  have HS := Lib.hid hs
  clear hC hs hm
  rw [lv_acked]
  go_wp2_with fail
  refine (Open_any p _ (lv3.send.ack 1) _ HS.out).mono ?_; rintro e w' ⟨rfl, rfl⟩
  rw [lv_open]
  go_wp2
  go_ret
  exact ⟨rfl, HC.out.mod⟩
end Go.Proofs.Ytidkapanpieflaa
