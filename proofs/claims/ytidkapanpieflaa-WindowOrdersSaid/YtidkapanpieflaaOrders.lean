/- WindowOrders: the walk. -/
import Derived.Test.YtidkapanpieflaaOrdMem
import Derived.Test.YtidkapanpieflaaTakes
import Derived.Test.YtidkapanpieflaaActs
namespace Go.Proofs.Ytidkapanpieflaa
open Go.RowKit
set_option linter.unusedVariables false
set_option linter.unusedSimpArgs false
set_option maxHeartbeats 40000000 in
set_option maxRecDepth 100000 in
theorem orders_walk (a0 a1 : Int) (h00 : 0 ≤ a0) (h01 : a0 < 4294967296) (v : Value) (n : Nat) (l : Nat → ActV) (w : World) (hl : ActRow w v n l) :
    Calls Try.prog 5 #[.int .u32 a0, .int .i64 a1, v] w fun e w' => e = .returned (.bool true) ∧ Mod (fun _ => False) w w' := by
  obtain ⟨ad, cap, rfl, hn, hc, hg⟩ := hl
  have hn63 : n ≤ 9223372036854775807 := by unfold maxLen at hc; omega
  have HG := Lib.hid hg
  clear hg
  go_enter Try.func5, Try.ntmps5
  go_wp2_with fail
  refine (NewSender_any a0 a1 _ h00 h01).mono ?_; rintro e w1 ⟨p, rfl, hs, hm⟩
  obtain ⟨c1, hC, hs⟩ : ∃ c, Col w w1 c ∧ SndAt w1 p (fun k => c k = 1) ⟨a0, [], 0, Snd.width a1⟩ := ⟨_, (Col.start w).still hm 1, hs.born (fun _ => 0) 1⟩
  have HC := Lib.hid hC
  have HS := Lib.hid hs
  clear hC hs hm
  go_wp2_with fail
  refine (NewReceiver_any a0 a1 _ h00 h01).mono ?_; rintro e w2 ⟨q, rfl, hr, hm⟩
  obtain ⟨c2, hC, hs, hr⟩ : ∃ c, Col w w2 c ∧ SndAt w2 p (fun k => c k = 1) ⟨a0, [], 0, Snd.width a1⟩ ∧ RcvAt w2 q (fun k => c k = 2) ⟨a0, Snd.width a1, []⟩ := ⟨_, HC.out.still hm 2, HS.out.still HC.out hm (by decide) 2, hr.born c1 2⟩
  obtain ⟨c3, hB⟩ := OrdM.begin hC hs hr
  have HB := Lib.hid hB
  clear HC HS hm hC hs hr hB
  go_wp2_with fail
  go_loopw [9, 10, 11, 12, 13] (fun vi vo vn va i wr => ∃ (j : Nat) (c : Nat → Nat) (s : Snd) (r : Rcv) (li lo : List ByteArray) (net : List Pkt) (acks : List Int), j ≤ n ∧ j ≤ 60 ∧ i = .int .i64 j ∧ OrdM w wr p q vi vo vn va c s r li lo net acks ∧ OrdL a0 s r li lo net acks j) (fun _ _ _ _ i _ => n - (intOf i).toNat)
  case atStart => exact ⟨0, c3, _, _, _, _, _, _, Nat.zero_le _, by decide, rfl, HB.out, OrdL.start h00 h01 (Snd.width_bd a1).1 (Snd.width_bd a1).2⟩
  case round =>
    obtain ⟨j, c, s, r, li, lo, net, acks, hj, hj60, rfl, hM, hL⟩ := hrel
    have HM := Lib.hid hM
    have HL := Lib.hid hL
    obtain ⟨ai, ci, rfl, hni, hci, _⟩ := hM.ri.form
    obtain ⟨ao, co, rfl, hno, hco, _⟩ := hM.ro.form
    obtain ⟨an, cn, rfl, hnn, hcn, hgn⟩ := hM.rn.form
    obtain ⟨aa, ca, rfl, hna, hca, hga⟩ := hM.ra.form
    have HGN := Lib.hid hgn
    have HGA := Lib.hid hga
    have hl1 := hL.nl
    have hl2 := hL.nn
    have hl3 := hL.na
    have hl4 := hL.begin.1
    clear hM hL hgn hga HB
    by_cases hlt : j < n
    · by_cases h60 : j < 60
      · obtain ⟨g, o, rfl, hgl, hcg⟩ := HG.out (by omega)
        obtain ⟨hk, hN, hc0, hc1, hc2⟩ := hcg j hlt
        obtain ⟨kd, hkd⟩ : ∃ kd, kd = (l j).kind := ⟨_, rfl⟩
        obtain ⟨bd, hbd⟩ : ∃ bd, bd = (l j).body := ⟨_, rfl⟩
        obtain ⟨nb, hnb⟩ : ∃ nb, nb = (l j).n := ⟨_, rfl⟩
        rw [← hkd] at hk hc0
        rw [← hbd] at hc1
        rw [← hnb] at hN hc2
        have k0 : wr.cell? ⟨g, o + j * 3, none⟩ = some (.int .i64 kd) := HM.out.col.mod.cell (fun f => f) hc0
        have k1 : wr.cell? ⟨g, o + j * 3 + 1, none⟩ = some (.string bd) := HM.out.col.mod.cell (fun f => f) hc1
        have k2 : wr.cell? ⟨g, o + j * 3 + 2, none⟩ = some (.int .i64 nb) := HM.out.col.mod.cell (fun f => f) hc2
        have hki : (j : Int) < (n : Int) := by omega
        have hki4 : (j : Int) < 60 := by omega
        clear hcg hc0 hc1 hc2 hkd hbd hnb
        go_wp2_with fail
        refine (Cut_any bd 8 (by decide) (by decide) _).mono ?_; rintro e w' ⟨rfl, rfl⟩
        obtain ⟨cb, hcb⟩ : ∃ cb, cb = cutB bd 8 := ⟨_, rfl⟩
        rw [← hcb]
        clear hcb k0 k1 k2
        obtain ⟨nu, e1, hnu0, hnu1⟩ : ∃ nu : Int, IntKind.u64.wrap nb = nu ∧ 0 ≤ nu ∧ nu < 18446744073709551616 := ⟨_, rfl, by rw [IntKind.wrap_u64]; omega, by rw [IntKind.wrap_u64]; omega⟩
        rcases (show ¬ 0 < net.length ∨ 0 < net.length by omega) with hnet | hnet
        · have hneti : ¬ (0 : Int) < (net.length : Int) := by omega
          have hnz : (net.length : Int) = 0 := by omega
          rcases (show kd = 0 ∨ kd = 1 ∨ kd = 2 ∨ kd = 3 ∨ kd = 4 ∨ kd = 5 ∨ (kd < 0 ∨ 5 < kd) by omega) with rfl | rfl | rfl | rfl | rfl | rfl | hkd
          · have HM1 : Hid (OrdM w (wr.alloc (.cells #[.int .i64 0, .string cb, .int .i64 nb] 49)) p q _ _ _ _ _ s r li lo net acks) := Lib.hid (HM.out.still ((Mod.refl _ _).alloc _) 7)
            obtain ⟨c1, hc1, hcp⟩ : ∃ c1, c1 = paint c wr (wr.alloc (.cells #[.int .i64 0, .string cb, .int .i64 nb] 49)) 7 ∧ c1 wr.heap.size = 7 := ⟨_, rfl, paint_born c wr (wr.alloc (.cells #[.int .i64 0, .string cb, .int .i64 nb] 49)) 7 _ (Nat.le_refl _) (by simp)⟩
            rw [← hc1] at HM1
            have HP := Lib.hid hcp
            have K0 : Hid ((wr.alloc (.cells #[.int .i64 0, .string cb, .int .i64 nb] 49)).cell? ⟨wr.heap.size, 0, none⟩ = some (.int .i64 0)) := Lib.hid (cellOf (allocNew wr _) 0)
            have K1 : Hid ((wr.alloc (.cells #[.int .i64 0, .string cb, .int .i64 nb] 49)).cell? ⟨wr.heap.size, 1, none⟩ = some (.string cb)) := Lib.hid (cellOf (allocNew wr _) 1)
            clear hc1 hcp
            go_wp2_with fail
            refine (Push_any p _ s cb _ HM1.out.snd).mono ?_; rintro e w3 ⟨rfl, hr, hm⟩
            have k3 : w3.cell? ⟨wr.heap.size, 1, none⟩ = some (.string cb) := hm.cell (by show ¬ c1 wr.heap.size = 1; rw [HP.out]; decide) K1.out
            have HM3 := Lib.hid (HM1.out.sndM hr hm)
            obtain ⟨hfu, hL3⟩ := HL.out.push cb h60
            have HL3 := Lib.hid hL3
            rw [hfu]
            clear hr hm hfu hL3
            go_wp2_with (at_builtin; refine wpList_append_one Try.elStr rfl (.tmp 82) (.tmp 85) rfl #[.string cb] _ _ _ _ (HM3.out.ri.alloc _) _ (allocNew w3 _) rfl rfl rfl (by simp [Value.oneCell']) (by omega) (by unfold maxLen; omega) ?_)
            intro v4 w4 hR hm4
            obtain ⟨a4, c4, rfl, hn4, hc4, _⟩ := hR.form
            obtain ⟨l2, hl2e⟩ : ∃ l2, l2 = li ++ [cb] := ⟨_, rfl⟩
            have hle : li.length + 1 = l2.length := by rw [hl2e]; simp
            rw [hle] at hR hn4 ⊢
            rw [← hl2e] at HL3
            have HM4 := Lib.hid (HM3.out.inM (l' := l2) (hR.mono fun k hk => hk.imp id fun h => by first | omega | exact allocLe h | (simp; omega)) ((Mod.allocThen hm4).row HM3.out.ri) rfl (by rw [hl2e]; simp))
            clear hle hl2e
            clear hR hm4 k3
            have HLz := HL3
            have hbg := HL3.out.begin
            have hbi : ¬ ((l2).length : Int) < ((lo).length : Int) := by omega
            have hbl : (lo).length ≤ (l2).length := hbg.1
            have HRT := Lib.hid (reads_take HM4.out.ri hbg.1 hbg.2)
            have HRO := Lib.hid HM4.out.ro.reads
            clear hbg
            obtain ⟨nlo, hnlo⟩ : ∃ nlo, nlo = (lo).length := ⟨_, rfl⟩
            obtain ⟨nli, hnli⟩ : ∃ nli, nli = (l2).length := ⟨_, rfl⟩
            go_wp2_with fail
            refine (SameStr_any _ _ (lo) (lo) _ HRO.out HRT.out).mono ?_; rintro e wz ⟨rfl, hm⟩
            have HMz := Lib.hid (HM4.out.still hm 9)
            clear hm
            simp only [decide_true]
            clear hbi hbl hnlo hnli
            go_wp2
            go_roundw
            case rel => exact ⟨j + 1, _, _, _, _, _, _, _, by omega, by omega, by go_num, HMz.out, HLz.out⟩
            case measure => simp [intOf]; omega
          · have HM1 : Hid (OrdM w (wr.alloc (.cells #[.int .i64 1, .string cb, .int .i64 nb] 49)) p q _ _ _ _ _ s r li lo net acks) := Lib.hid (HM.out.still ((Mod.refl _ _).alloc _) 7)
            obtain ⟨c1, hc1, hcp⟩ : ∃ c1, c1 = paint c wr (wr.alloc (.cells #[.int .i64 1, .string cb, .int .i64 nb] 49)) 7 ∧ c1 wr.heap.size = 7 := ⟨_, rfl, paint_born c wr (wr.alloc (.cells #[.int .i64 1, .string cb, .int .i64 nb] 49)) 7 _ (Nat.le_refl _) (by simp)⟩
            rw [← hc1] at HM1
            have HP := Lib.hid hcp
            have K0 : Hid ((wr.alloc (.cells #[.int .i64 1, .string cb, .int .i64 nb] 49)).cell? ⟨wr.heap.size, 0, none⟩ = some (.int .i64 1)) := Lib.hid (cellOf (allocNew wr _) 0)
            have K1 : Hid ((wr.alloc (.cells #[.int .i64 1, .string cb, .int .i64 nb] 49)).cell? ⟨wr.heap.size, 1, none⟩ = some (.string cb)) := Lib.hid (cellOf (allocNew wr _) 1)
            clear hc1 hcp
            go_wp2_with fail
            refine (Send_any p _ s _ HM1.out.snd).mono ?_; rintro e w3 ⟨v1, rfl, hv1, hr, hm⟩
            have HM3 := Lib.hid (HM1.out.sndS hr hm 8)
            clear hr
            have HV := Lib.hid hv1.reads
            obtain ⟨hln, hL3⟩ := HL.out.send
            have HL3 := Lib.hid hL3
            clear hm hL3 hv1
            go_wp2_with (at_builtin; refine wpList_append_reads Try.elPkt rfl (.tmp 89) (.tmp 91) rfl _ _ _ _ rfl HM3.out.rn _ s.news.length (Pkt.vals s.news) rfl HV.out (by rw [vals_len]) (vals_all _) (by omega) (by unfold maxLen; omega) ?_)
            intro v4 w4 hR hm4
            obtain ⟨a4, c4, rfl, hn4, hc4, _⟩ := hR.form
            obtain ⟨n2, hn2e⟩ : ∃ n2, n2 = net ++ s.news := ⟨_, rfl⟩
            have hle : net.length + s.news.length = n2.length := by rw [hn2e]; simp
            rw [hle] at hR hn4 ⊢
            rw [← hn2e] at HL3
            have HM4 := Lib.hid (HM3.out.netM (net' := n2) hR hm4 rfl (by rw [hn2e, vals_append]))
            clear hR hm4 hle hn2e
            have HLz := HL3
            have hbg := HL3.out.begin
            have hbi : ¬ ((li).length : Int) < ((lo).length : Int) := by omega
            have hbl : (lo).length ≤ (li).length := hbg.1
            have HRT := Lib.hid (reads_take HM4.out.ri hbg.1 hbg.2)
            have HRO := Lib.hid HM4.out.ro.reads
            clear hbg
            obtain ⟨nlo, hnlo⟩ : ∃ nlo, nlo = (lo).length := ⟨_, rfl⟩
            obtain ⟨nli, hnli⟩ : ∃ nli, nli = (li).length := ⟨_, rfl⟩
            go_wp2_with fail
            refine (SameStr_any _ _ (lo) (lo) _ HRO.out HRT.out).mono ?_; rintro e wz ⟨rfl, hm⟩
            have HMz := Lib.hid (HM4.out.still hm 9)
            clear hm
            simp only [decide_true]
            clear hbi hbl hnlo hnli
            go_wp2
            go_roundw
            case rel => exact ⟨j + 1, _, _, _, _, _, _, _, by omega, by omega, by go_num, HMz.out, HLz.out⟩
            case measure => simp [intOf]; omega
          · have HM1 : Hid (OrdM w (wr.alloc (.cells #[.int .i64 2, .string cb, .int .i64 nb] 49)) p q _ _ _ _ _ s r li lo net acks) := Lib.hid (HM.out.still ((Mod.refl _ _).alloc _) 7)
            obtain ⟨c1, hc1, hcp⟩ : ∃ c1, c1 = paint c wr (wr.alloc (.cells #[.int .i64 2, .string cb, .int .i64 nb] 49)) 7 ∧ c1 wr.heap.size = 7 := ⟨_, rfl, paint_born c wr (wr.alloc (.cells #[.int .i64 2, .string cb, .int .i64 nb] 49)) 7 _ (Nat.le_refl _) (by simp)⟩
            rw [← hc1] at HM1
            have HP := Lib.hid hcp
            have K0 : Hid ((wr.alloc (.cells #[.int .i64 2, .string cb, .int .i64 nb] 49)).cell? ⟨wr.heap.size, 0, none⟩ = some (.int .i64 2)) := Lib.hid (cellOf (allocNew wr _) 0)
            have K1 : Hid ((wr.alloc (.cells #[.int .i64 2, .string cb, .int .i64 nb] 49)).cell? ⟨wr.heap.size, 1, none⟩ = some (.string cb)) := Lib.hid (cellOf (allocNew wr _) 1)
            clear hc1 hcp
            go_wp2_with fail
            refine (Again_any p _ s _ HM1.out.snd).mono ?_; rintro e w3 ⟨v1, rfl, hv1, hm⟩
            have HM3 := Lib.hid (HM1.out.still hm 8)
            have HV := Lib.hid hv1.reads
            obtain ⟨hln, hL3⟩ := HL.out.again
            have HL3 := Lib.hid hL3
            clear hm hL3 hv1
            go_wp2_with (at_builtin; refine wpList_append_reads Try.elPkt rfl (.tmp 95) (.tmp 97) rfl _ _ _ _ rfl HM3.out.rn _ s.again.length (Pkt.vals s.again) rfl HV.out (by rw [vals_len]) (vals_all _) (by omega) (by unfold maxLen; omega) ?_)
            intro v4 w4 hR hm4
            obtain ⟨a4, c4, rfl, hn4, hc4, _⟩ := hR.form
            obtain ⟨n2, hn2e⟩ : ∃ n2, n2 = net ++ s.again := ⟨_, rfl⟩
            have hle : net.length + s.again.length = n2.length := by rw [hn2e]; simp
            rw [hle] at hR hn4 ⊢
            rw [← hn2e] at HL3
            have HM4 := Lib.hid (HM3.out.netM (net' := n2) hR hm4 rfl (by rw [hn2e, vals_append]))
            clear hR hm4 hle hn2e
            have HLz := HL3
            have hbg := HL3.out.begin
            have hbi : ¬ ((li).length : Int) < ((lo).length : Int) := by omega
            have hbl : (lo).length ≤ (li).length := hbg.1
            have HRT := Lib.hid (reads_take HM4.out.ri hbg.1 hbg.2)
            have HRO := Lib.hid HM4.out.ro.reads
            clear hbg
            obtain ⟨nlo, hnlo⟩ : ∃ nlo, nlo = (lo).length := ⟨_, rfl⟩
            obtain ⟨nli, hnli⟩ : ∃ nli, nli = (li).length := ⟨_, rfl⟩
            go_wp2_with fail
            refine (SameStr_any _ _ (lo) (lo) _ HRO.out HRT.out).mono ?_; rintro e wz ⟨rfl, hm⟩
            have HMz := Lib.hid (HM4.out.still hm 9)
            clear hm
            simp only [decide_true]
            clear hbi hbl hnlo hnli
            go_wp2
            go_roundw
            case rel => exact ⟨j + 1, _, _, _, _, _, _, _, by omega, by omega, by go_num, HMz.out, HLz.out⟩
            case measure => simp [intOf]; omega
          · have HM1 : Hid (OrdM w (wr.alloc (.cells #[.int .i64 3, .string cb, .int .i64 nb] 49)) p q _ _ _ _ _ s r li lo net acks) := Lib.hid (HM.out.still ((Mod.refl _ _).alloc _) 7)
            obtain ⟨c1, hc1, hcp⟩ : ∃ c1, c1 = paint c wr (wr.alloc (.cells #[.int .i64 3, .string cb, .int .i64 nb] 49)) 7 ∧ c1 wr.heap.size = 7 := ⟨_, rfl, paint_born c wr (wr.alloc (.cells #[.int .i64 3, .string cb, .int .i64 nb] 49)) 7 _ (Nat.le_refl _) (by simp)⟩
            rw [← hc1] at HM1
            have HP := Lib.hid hcp
            have K0 : Hid ((wr.alloc (.cells #[.int .i64 3, .string cb, .int .i64 nb] 49)).cell? ⟨wr.heap.size, 0, none⟩ = some (.int .i64 3)) := Lib.hid (cellOf (allocNew wr _) 0)
            have K1 : Hid ((wr.alloc (.cells #[.int .i64 3, .string cb, .int .i64 nb] 49)).cell? ⟨wr.heap.size, 1, none⟩ = some (.string cb)) := Lib.hid (cellOf (allocNew wr _) 1)
            clear hc1 hcp
            have HL3 := Lib.hid HL.out.skip
            have HLz := HL3
            have hbg := HL3.out.begin
            have hbi : ¬ ((li).length : Int) < ((lo).length : Int) := by omega
            have hbl : (lo).length ≤ (li).length := hbg.1
            have HRT := Lib.hid (reads_take HM1.out.ri hbg.1 hbg.2)
            have HRO := Lib.hid HM1.out.ro.reads
            clear hbg
            obtain ⟨nlo, hnlo⟩ : ∃ nlo, nlo = (lo).length := ⟨_, rfl⟩
            obtain ⟨nli, hnli⟩ : ∃ nli, nli = (li).length := ⟨_, rfl⟩
            go_wp2_with fail
            refine (SameStr_any _ _ (lo) (lo) _ HRO.out HRT.out).mono ?_; rintro e wz ⟨rfl, hm⟩
            have HMz := Lib.hid (HM1.out.still hm 9)
            clear hm
            simp only [decide_true]
            clear hbi hbl hnlo hnli
            go_wp2
            go_roundw
            case rel => exact ⟨j + 1, _, _, _, _, _, _, _, by omega, by omega, by go_num, HMz.out, HLz.out⟩
            case measure => simp [intOf]; omega
          · have HM1 : Hid (OrdM w (wr.alloc (.cells #[.int .i64 4, .string cb, .int .i64 nb] 49)) p q _ _ _ _ _ s r li lo net acks) := Lib.hid (HM.out.still ((Mod.refl _ _).alloc _) 7)
            obtain ⟨c1, hc1, hcp⟩ : ∃ c1, c1 = paint c wr (wr.alloc (.cells #[.int .i64 4, .string cb, .int .i64 nb] 49)) 7 ∧ c1 wr.heap.size = 7 := ⟨_, rfl, paint_born c wr (wr.alloc (.cells #[.int .i64 4, .string cb, .int .i64 nb] 49)) 7 _ (Nat.le_refl _) (by simp)⟩
            rw [← hc1] at HM1
            have HP := Lib.hid hcp
            have K0 : Hid ((wr.alloc (.cells #[.int .i64 4, .string cb, .int .i64 nb] 49)).cell? ⟨wr.heap.size, 0, none⟩ = some (.int .i64 4)) := Lib.hid (cellOf (allocNew wr _) 0)
            have K1 : Hid ((wr.alloc (.cells #[.int .i64 4, .string cb, .int .i64 nb] 49)).cell? ⟨wr.heap.size, 1, none⟩ = some (.string cb)) := Lib.hid (cellOf (allocNew wr _) 1)
            clear hc1 hcp
            have HL3 := Lib.hid HL.out.skip
            have HLz := HL3
            have hbg := HL3.out.begin
            have hbi : ¬ ((li).length : Int) < ((lo).length : Int) := by omega
            have hbl : (lo).length ≤ (li).length := hbg.1
            have HRT := Lib.hid (reads_take HM1.out.ri hbg.1 hbg.2)
            have HRO := Lib.hid HM1.out.ro.reads
            clear hbg
            obtain ⟨nlo, hnlo⟩ : ∃ nlo, nlo = (lo).length := ⟨_, rfl⟩
            obtain ⟨nli, hnli⟩ : ∃ nli, nli = (li).length := ⟨_, rfl⟩
            go_wp2_with fail
            refine (SameStr_any _ _ (lo) (lo) _ HRO.out HRT.out).mono ?_; rintro e wz ⟨rfl, hm⟩
            have HMz := Lib.hid (HM1.out.still hm 9)
            clear hm
            simp only [decide_true]
            clear hbi hbl hnlo hnli
            go_wp2
            go_roundw
            case rel => exact ⟨j + 1, _, _, _, _, _, _, _, by omega, by omega, by go_num, HMz.out, HLz.out⟩
            case measure => simp [intOf]; omega
          · have HM1 : Hid (OrdM w (wr.alloc (.cells #[.int .i64 5, .string cb, .int .i64 nb] 49)) p q _ _ _ _ _ s r li lo net acks) := Lib.hid (HM.out.still ((Mod.refl _ _).alloc _) 7)
            obtain ⟨c1, hc1, hcp⟩ : ∃ c1, c1 = paint c wr (wr.alloc (.cells #[.int .i64 5, .string cb, .int .i64 nb] 49)) 7 ∧ c1 wr.heap.size = 7 := ⟨_, rfl, paint_born c wr (wr.alloc (.cells #[.int .i64 5, .string cb, .int .i64 nb] 49)) 7 _ (Nat.le_refl _) (by simp)⟩
            rw [← hc1] at HM1
            have HP := Lib.hid hcp
            have K0 : Hid ((wr.alloc (.cells #[.int .i64 5, .string cb, .int .i64 nb] 49)).cell? ⟨wr.heap.size, 0, none⟩ = some (.int .i64 5)) := Lib.hid (cellOf (allocNew wr _) 0)
            have K1 : Hid ((wr.alloc (.cells #[.int .i64 5, .string cb, .int .i64 nb] 49)).cell? ⟨wr.heap.size, 1, none⟩ = some (.string cb)) := Lib.hid (cellOf (allocNew wr _) 1)
            clear hc1 hcp
            have HL3 := Lib.hid HL.out.skip
            have HLz := HL3
            have hbg := HL3.out.begin
            have hbi : ¬ ((li).length : Int) < ((lo).length : Int) := by omega
            have hbl : (lo).length ≤ (li).length := hbg.1
            have HRT := Lib.hid (reads_take HM1.out.ri hbg.1 hbg.2)
            have HRO := Lib.hid HM1.out.ro.reads
            clear hbg
            obtain ⟨nlo, hnlo⟩ : ∃ nlo, nlo = (lo).length := ⟨_, rfl⟩
            obtain ⟨nli, hnli⟩ : ∃ nli, nli = (li).length := ⟨_, rfl⟩
            go_wp2_with fail
            refine (SameStr_any _ _ (lo) (lo) _ HRO.out HRT.out).mono ?_; rintro e wz ⟨rfl, hm⟩
            have HMz := Lib.hid (HM1.out.still hm 9)
            clear hm
            simp only [decide_true]
            clear hbi hbl hnlo hnli
            go_wp2
            go_roundw
            case rel => exact ⟨j + 1, _, _, _, _, _, _, _, by omega, by omega, by go_num, HMz.out, HLz.out⟩
            case measure => simp [intOf]; omega
          · have HM1 : Hid (OrdM w (wr.alloc (.cells #[.int .i64 kd, .string cb, .int .i64 nb] 49)) p q _ _ _ _ _ s r li lo net acks) := Lib.hid (HM.out.still ((Mod.refl _ _).alloc _) 7)
            obtain ⟨c1, hc1, hcp⟩ : ∃ c1, c1 = paint c wr (wr.alloc (.cells #[.int .i64 kd, .string cb, .int .i64 nb] 49)) 7 ∧ c1 wr.heap.size = 7 := ⟨_, rfl, paint_born c wr (wr.alloc (.cells #[.int .i64 kd, .string cb, .int .i64 nb] 49)) 7 _ (Nat.le_refl _) (by simp)⟩
            rw [← hc1] at HM1
            have HP := Lib.hid hcp
            have K0 : Hid ((wr.alloc (.cells #[.int .i64 kd, .string cb, .int .i64 nb] 49)).cell? ⟨wr.heap.size, 0, none⟩ = some (.int .i64 kd)) := Lib.hid (cellOf (allocNew wr _) 0)
            have K1 : Hid ((wr.alloc (.cells #[.int .i64 kd, .string cb, .int .i64 nb] 49)).cell? ⟨wr.heap.size, 1, none⟩ = some (.string cb)) := Lib.hid (cellOf (allocNew wr _) 1)
            clear hc1 hcp
            have q0 : ¬ kd = 0 := by omega
            have q1 : ¬ kd = 1 := by omega
            have q2 : ¬ kd = 2 := by omega
            have q3 : ¬ kd = 3 := by omega
            have q4 : ¬ kd = 4 := by omega
            have q5 : ¬ kd = 5 := by omega
            by_cases hak : 0 < acks.length
            · have haki : (0 : Int) < (acks.length : Int) := by omega
              have haz : ¬ (acks.length : Int) = 0 := by omega
              have f2 : IntKind.u64.wrap (acks.length : Int) = acks.length := IntWalk.u64_in _ (by omega)
              obtain ⟨ka, hka, f3⟩ : ∃ ka : Nat, ka < acks.length ∧ nu.tmod (acks.length : Int) = ka := by
                have b0 := Int.tmod_nonneg (acks.length : Int) hnu0
                have b1 := Int.tmod_lt_of_pos nu haki
                exact ⟨(nu.tmod (acks.length : Int)).toNat, by omega, by omega⟩
              have f4 : IntKind.u64.wrap (ka : Int) = ka := IntWalk.u64_in _ (by omega)
              have f5 : IntKind.i64.wrap (ka : Int) = ka := IntWalk.i64_in _ (by omega)
              obtain ⟨ga, rfl, _, hgal, hca2⟩ := HGA.out hak
              obtain ⟨y, hy⟩ : ∃ y, y = acks[ka]'hka := ⟨_, rfl⟩
              have hym : y ∈ acks := hy ▸ List.getElem_mem hka
              have y0 : (wr.alloc (.cells #[.int .i64 kd, .string cb, .int .i64 nb] 49)).cell? ⟨ga, ka, none⟩ = some (.int .u32 y) := allocCell _ (hca2 _ _ (by simp [hka, hy]))
              have hkai : (ka : Int) < (acks.length : Int) := by omega
              clear hy hca2
              obtain ⟨hy0, hy1, hL3⟩ := HL.out.ack hym
              have HL3 := Lib.hid hL3
              clear hL3
              go_wp2_with fail
              refine (Ack_any p _ s y _ HM1.out.snd hy0 hy1).mono ?_; rintro e w3 ⟨rfl, hr, hm⟩
              have HM4 := Lib.hid (HM1.out.sndM hr hm)
              clear hr hm y0 f2 f3 f4 f5 haz
              have HLz := HL3
              have hbg := HL3.out.begin
              have hbi : ¬ ((li).length : Int) < ((lo).length : Int) := by omega
              have hbl : (lo).length ≤ (li).length := hbg.1
              have HRT := Lib.hid (reads_take HM4.out.ri hbg.1 hbg.2)
              have HRO := Lib.hid HM4.out.ro.reads
              clear hbg
              obtain ⟨nlo, hnlo⟩ : ∃ nlo, nlo = (lo).length := ⟨_, rfl⟩
              obtain ⟨nli, hnli⟩ : ∃ nli, nli = (li).length := ⟨_, rfl⟩
              go_wp2_with fail
              refine (SameStr_any _ _ (lo) (lo) _ HRO.out HRT.out).mono ?_; rintro e wz ⟨rfl, hm⟩
              have HMz := Lib.hid (HM4.out.still hm 9)
              clear hm
              simp only [decide_true]
              clear hbi hbl hnlo hnli
              go_wp2
              go_roundw
              case rel => exact ⟨j + 1, _, _, _, _, _, _, _, by omega, by omega, by go_num, HMz.out, HLz.out⟩
              case measure => simp [intOf]; omega
            · have haki : ¬ (0 : Int) < (acks.length : Int) := by omega
              have HL3 := Lib.hid HL.out.skip
              have HLz := HL3
              have hbg := HL3.out.begin
              have hbi : ¬ ((li).length : Int) < ((lo).length : Int) := by omega
              have hbl : (lo).length ≤ (li).length := hbg.1
              have HRT := Lib.hid (reads_take HM1.out.ri hbg.1 hbg.2)
              have HRO := Lib.hid HM1.out.ro.reads
              clear hbg
              obtain ⟨nlo, hnlo⟩ : ∃ nlo, nlo = (lo).length := ⟨_, rfl⟩
              obtain ⟨nli, hnli⟩ : ∃ nli, nli = (li).length := ⟨_, rfl⟩
              go_wp2_with fail
              refine (SameStr_any _ _ (lo) (lo) _ HRO.out HRT.out).mono ?_; rintro e wz ⟨rfl, hm⟩
              have HMz := Lib.hid (HM1.out.still hm 9)
              clear hm
              simp only [decide_true]
              clear hbi hbl hnlo hnli
              go_wp2
              go_roundw
              case rel => exact ⟨j + 1, _, _, _, _, _, _, _, by omega, by omega, by go_num, HMz.out, HLz.out⟩
              case measure => simp [intOf]; omega
        · have hneti : (0 : Int) < (net.length : Int) := by omega
          have hnz : ¬ (net.length : Int) = 0 := by omega
          have e2 : IntKind.u64.wrap (net.length : Int) = net.length := IntWalk.u64_in _ (by omega)
          obtain ⟨at_, hat, e3⟩ : ∃ at_ : Nat, at_ < net.length ∧ nu.tmod (net.length : Int) = at_ := by
            have b0 := Int.tmod_nonneg (net.length : Int) hnu0
            have b1 := Int.tmod_lt_of_pos nu hneti
            exact ⟨(nu.tmod (net.length : Int)).toNat, by omega, by omega⟩
          have e4 : IntKind.u64.wrap (at_ : Int) = at_ := IntWalk.u64_in _ (by omega)
          have e5 : IntKind.i64.wrap (at_ : Int) = at_ := IntWalk.i64_in _ (by omega)
          rcases (show kd = 0 ∨ kd = 1 ∨ kd = 2 ∨ kd = 3 ∨ kd = 4 ∨ kd = 5 ∨ (kd < 0 ∨ 5 < kd) by omega) with rfl | rfl | rfl | rfl | rfl | rfl | hkd
          · have HM1 : Hid (OrdM w (wr.alloc (.cells #[.int .i64 0, .string cb, .int .i64 nb] 49)) p q _ _ _ _ _ s r li lo net acks) := Lib.hid (HM.out.still ((Mod.refl _ _).alloc _) 7)
            obtain ⟨c1, hc1, hcp⟩ : ∃ c1, c1 = paint c wr (wr.alloc (.cells #[.int .i64 0, .string cb, .int .i64 nb] 49)) 7 ∧ c1 wr.heap.size = 7 := ⟨_, rfl, paint_born c wr (wr.alloc (.cells #[.int .i64 0, .string cb, .int .i64 nb] 49)) 7 _ (Nat.le_refl _) (by simp)⟩
            rw [← hc1] at HM1
            have HP := Lib.hid hcp
            have K0 : Hid ((wr.alloc (.cells #[.int .i64 0, .string cb, .int .i64 nb] 49)).cell? ⟨wr.heap.size, 0, none⟩ = some (.int .i64 0)) := Lib.hid (cellOf (allocNew wr _) 0)
            have K1 : Hid ((wr.alloc (.cells #[.int .i64 0, .string cb, .int .i64 nb] 49)).cell? ⟨wr.heap.size, 1, none⟩ = some (.string cb)) := Lib.hid (cellOf (allocNew wr _) 1)
            clear hc1 hcp
            go_wp2_with fail
            refine (Push_any p _ s cb _ HM1.out.snd).mono ?_; rintro e w3 ⟨rfl, hr, hm⟩
            have k3 : w3.cell? ⟨wr.heap.size, 1, none⟩ = some (.string cb) := hm.cell (by show ¬ c1 wr.heap.size = 1; rw [HP.out]; decide) K1.out
            have HM3 := Lib.hid (HM1.out.sndM hr hm)
            obtain ⟨hfu, hL3⟩ := HL.out.push cb h60
            have HL3 := Lib.hid hL3
            rw [hfu]
            clear hr hm hfu hL3
            go_wp2_with (at_builtin; refine wpList_append_one Try.elStr rfl (.tmp 82) (.tmp 85) rfl #[.string cb] _ _ _ _ (HM3.out.ri.alloc _) _ (allocNew w3 _) rfl rfl rfl (by simp [Value.oneCell']) (by omega) (by unfold maxLen; omega) ?_)
            intro v4 w4 hR hm4
            obtain ⟨a4, c4, rfl, hn4, hc4, _⟩ := hR.form
            obtain ⟨l2, hl2e⟩ : ∃ l2, l2 = li ++ [cb] := ⟨_, rfl⟩
            have hle : li.length + 1 = l2.length := by rw [hl2e]; simp
            rw [hle] at hR hn4 ⊢
            rw [← hl2e] at HL3
            have HM4 := Lib.hid (HM3.out.inM (l' := l2) (hR.mono fun k hk => hk.imp id fun h => by first | omega | exact allocLe h | (simp; omega)) ((Mod.allocThen hm4).row HM3.out.ri) rfl (by rw [hl2e]; simp))
            clear hle hl2e
            clear hR hm4 k3
            have HLz := HL3
            have hbg := HL3.out.begin
            have hbi : ¬ ((l2).length : Int) < ((lo).length : Int) := by omega
            have hbl : (lo).length ≤ (l2).length := hbg.1
            have HRT := Lib.hid (reads_take HM4.out.ri hbg.1 hbg.2)
            have HRO := Lib.hid HM4.out.ro.reads
            clear hbg
            obtain ⟨nlo, hnlo⟩ : ∃ nlo, nlo = (lo).length := ⟨_, rfl⟩
            obtain ⟨nli, hnli⟩ : ∃ nli, nli = (l2).length := ⟨_, rfl⟩
            go_wp2_with fail
            refine (SameStr_any _ _ (lo) (lo) _ HRO.out HRT.out).mono ?_; rintro e wz ⟨rfl, hm⟩
            have HMz := Lib.hid (HM4.out.still hm 9)
            clear hm
            simp only [decide_true]
            clear hbi hbl hnlo hnli
            go_wp2
            go_roundw
            case rel => exact ⟨j + 1, _, _, _, _, _, _, _, by omega, by omega, by go_num, HMz.out, HLz.out⟩
            case measure => simp [intOf]; omega
          · have HM1 : Hid (OrdM w (wr.alloc (.cells #[.int .i64 1, .string cb, .int .i64 nb] 49)) p q _ _ _ _ _ s r li lo net acks) := Lib.hid (HM.out.still ((Mod.refl _ _).alloc _) 7)
            obtain ⟨c1, hc1, hcp⟩ : ∃ c1, c1 = paint c wr (wr.alloc (.cells #[.int .i64 1, .string cb, .int .i64 nb] 49)) 7 ∧ c1 wr.heap.size = 7 := ⟨_, rfl, paint_born c wr (wr.alloc (.cells #[.int .i64 1, .string cb, .int .i64 nb] 49)) 7 _ (Nat.le_refl _) (by simp)⟩
            rw [← hc1] at HM1
            have HP := Lib.hid hcp
            have K0 : Hid ((wr.alloc (.cells #[.int .i64 1, .string cb, .int .i64 nb] 49)).cell? ⟨wr.heap.size, 0, none⟩ = some (.int .i64 1)) := Lib.hid (cellOf (allocNew wr _) 0)
            have K1 : Hid ((wr.alloc (.cells #[.int .i64 1, .string cb, .int .i64 nb] 49)).cell? ⟨wr.heap.size, 1, none⟩ = some (.string cb)) := Lib.hid (cellOf (allocNew wr _) 1)
            clear hc1 hcp
            go_wp2_with fail
            refine (Send_any p _ s _ HM1.out.snd).mono ?_; rintro e w3 ⟨v1, rfl, hv1, hr, hm⟩
            have HM3 := Lib.hid (HM1.out.sndS hr hm 8)
            clear hr
            have HV := Lib.hid hv1.reads
            obtain ⟨hln, hL3⟩ := HL.out.send
            have HL3 := Lib.hid hL3
            clear hm hL3 hv1
            go_wp2_with (at_builtin; refine wpList_append_reads Try.elPkt rfl (.tmp 89) (.tmp 91) rfl _ _ _ _ rfl HM3.out.rn _ s.news.length (Pkt.vals s.news) rfl HV.out (by rw [vals_len]) (vals_all _) (by omega) (by unfold maxLen; omega) ?_)
            intro v4 w4 hR hm4
            obtain ⟨a4, c4, rfl, hn4, hc4, _⟩ := hR.form
            obtain ⟨n2, hn2e⟩ : ∃ n2, n2 = net ++ s.news := ⟨_, rfl⟩
            have hle : net.length + s.news.length = n2.length := by rw [hn2e]; simp
            rw [hle] at hR hn4 ⊢
            rw [← hn2e] at HL3
            have HM4 := Lib.hid (HM3.out.netM (net' := n2) hR hm4 rfl (by rw [hn2e, vals_append]))
            clear hR hm4 hle hn2e
            have HLz := HL3
            have hbg := HL3.out.begin
            have hbi : ¬ ((li).length : Int) < ((lo).length : Int) := by omega
            have hbl : (lo).length ≤ (li).length := hbg.1
            have HRT := Lib.hid (reads_take HM4.out.ri hbg.1 hbg.2)
            have HRO := Lib.hid HM4.out.ro.reads
            clear hbg
            obtain ⟨nlo, hnlo⟩ : ∃ nlo, nlo = (lo).length := ⟨_, rfl⟩
            obtain ⟨nli, hnli⟩ : ∃ nli, nli = (li).length := ⟨_, rfl⟩
            go_wp2_with fail
            refine (SameStr_any _ _ (lo) (lo) _ HRO.out HRT.out).mono ?_; rintro e wz ⟨rfl, hm⟩
            have HMz := Lib.hid (HM4.out.still hm 9)
            clear hm
            simp only [decide_true]
            clear hbi hbl hnlo hnli
            go_wp2
            go_roundw
            case rel => exact ⟨j + 1, _, _, _, _, _, _, _, by omega, by omega, by go_num, HMz.out, HLz.out⟩
            case measure => simp [intOf]; omega
          · have HM1 : Hid (OrdM w (wr.alloc (.cells #[.int .i64 2, .string cb, .int .i64 nb] 49)) p q _ _ _ _ _ s r li lo net acks) := Lib.hid (HM.out.still ((Mod.refl _ _).alloc _) 7)
            obtain ⟨c1, hc1, hcp⟩ : ∃ c1, c1 = paint c wr (wr.alloc (.cells #[.int .i64 2, .string cb, .int .i64 nb] 49)) 7 ∧ c1 wr.heap.size = 7 := ⟨_, rfl, paint_born c wr (wr.alloc (.cells #[.int .i64 2, .string cb, .int .i64 nb] 49)) 7 _ (Nat.le_refl _) (by simp)⟩
            rw [← hc1] at HM1
            have HP := Lib.hid hcp
            have K0 : Hid ((wr.alloc (.cells #[.int .i64 2, .string cb, .int .i64 nb] 49)).cell? ⟨wr.heap.size, 0, none⟩ = some (.int .i64 2)) := Lib.hid (cellOf (allocNew wr _) 0)
            have K1 : Hid ((wr.alloc (.cells #[.int .i64 2, .string cb, .int .i64 nb] 49)).cell? ⟨wr.heap.size, 1, none⟩ = some (.string cb)) := Lib.hid (cellOf (allocNew wr _) 1)
            clear hc1 hcp
            go_wp2_with fail
            refine (Again_any p _ s _ HM1.out.snd).mono ?_; rintro e w3 ⟨v1, rfl, hv1, hm⟩
            have HM3 := Lib.hid (HM1.out.still hm 8)
            have HV := Lib.hid hv1.reads
            obtain ⟨hln, hL3⟩ := HL.out.again
            have HL3 := Lib.hid hL3
            clear hm hL3 hv1
            go_wp2_with (at_builtin; refine wpList_append_reads Try.elPkt rfl (.tmp 95) (.tmp 97) rfl _ _ _ _ rfl HM3.out.rn _ s.again.length (Pkt.vals s.again) rfl HV.out (by rw [vals_len]) (vals_all _) (by omega) (by unfold maxLen; omega) ?_)
            intro v4 w4 hR hm4
            obtain ⟨a4, c4, rfl, hn4, hc4, _⟩ := hR.form
            obtain ⟨n2, hn2e⟩ : ∃ n2, n2 = net ++ s.again := ⟨_, rfl⟩
            have hle : net.length + s.again.length = n2.length := by rw [hn2e]; simp
            rw [hle] at hR hn4 ⊢
            rw [← hn2e] at HL3
            have HM4 := Lib.hid (HM3.out.netM (net' := n2) hR hm4 rfl (by rw [hn2e, vals_append]))
            clear hR hm4 hle hn2e
            have HLz := HL3
            have hbg := HL3.out.begin
            have hbi : ¬ ((li).length : Int) < ((lo).length : Int) := by omega
            have hbl : (lo).length ≤ (li).length := hbg.1
            have HRT := Lib.hid (reads_take HM4.out.ri hbg.1 hbg.2)
            have HRO := Lib.hid HM4.out.ro.reads
            clear hbg
            obtain ⟨nlo, hnlo⟩ : ∃ nlo, nlo = (lo).length := ⟨_, rfl⟩
            obtain ⟨nli, hnli⟩ : ∃ nli, nli = (li).length := ⟨_, rfl⟩
            go_wp2_with fail
            refine (SameStr_any _ _ (lo) (lo) _ HRO.out HRT.out).mono ?_; rintro e wz ⟨rfl, hm⟩
            have HMz := Lib.hid (HM4.out.still hm 9)
            clear hm
            simp only [decide_true]
            clear hbi hbl hnlo hnli
            go_wp2
            go_roundw
            case rel => exact ⟨j + 1, _, _, _, _, _, _, _, by omega, by omega, by go_num, HMz.out, HLz.out⟩
            case measure => simp [intOf]; omega
          · have HM1 : Hid (OrdM w (wr.alloc (.cells #[.int .i64 3, .string cb, .int .i64 nb] 49)) p q _ _ _ _ _ s r li lo net acks) := Lib.hid (HM.out.still ((Mod.refl _ _).alloc _) 7)
            obtain ⟨c1, hc1, hcp⟩ : ∃ c1, c1 = paint c wr (wr.alloc (.cells #[.int .i64 3, .string cb, .int .i64 nb] 49)) 7 ∧ c1 wr.heap.size = 7 := ⟨_, rfl, paint_born c wr (wr.alloc (.cells #[.int .i64 3, .string cb, .int .i64 nb] 49)) 7 _ (Nat.le_refl _) (by simp)⟩
            rw [← hc1] at HM1
            have HP := Lib.hid hcp
            have K0 : Hid ((wr.alloc (.cells #[.int .i64 3, .string cb, .int .i64 nb] 49)).cell? ⟨wr.heap.size, 0, none⟩ = some (.int .i64 3)) := Lib.hid (cellOf (allocNew wr _) 0)
            have K1 : Hid ((wr.alloc (.cells #[.int .i64 3, .string cb, .int .i64 nb] 49)).cell? ⟨wr.heap.size, 1, none⟩ = some (.string cb)) := Lib.hid (cellOf (allocNew wr _) 1)
            clear hc1 hcp
            obtain ⟨gn, rfl, _, hgnl, hcn2⟩ := HGN.out hnet
            obtain ⟨x, hx⟩ : ∃ x, x = net[at_]'hat := ⟨_, rfl⟩
            have hxm : x ∈ net := hx ▸ List.getElem_mem hat
            have x0 : (wr.alloc (.cells #[.int .i64 3, .string cb, .int .i64 nb] 49)).cell? ⟨gn, at_ * 2, none⟩ = some (.int .u32 x.seq) := allocCell _ (hx ▸ hcn2 _ _ (vals_get net at_ hat).1)
            have x1 : (wr.alloc (.cells #[.int .i64 3, .string cb, .int .i64 nb] 49)).cell? ⟨gn, at_ * 2 + 1, none⟩ = some (.string x.body) := allocCell _ (hx ▸ hcn2 _ _ (vals_get net at_ hat).2)
            have HX := Lib.hid hx
            have hati : (at_ : Int) < (net.length : Int) := by omega
            clear hx hcn2
            go_wp2_with fail
            have HQ : Hid (x.val = .agg #[.int .u32 x.seq, .string x.body]) := Lib.hid rfl
            rw [← HQ.out]
            obtain ⟨hq0, hq1, ho1, ho2, hL3⟩ := HL.out.take HM1.out.rcv.1 hxm
            have HL3 := Lib.hid hL3
            refine (Take_any q _ r x _ HM1.out.rcv hq0 hq1 (HM1.out.col.lt (by decide))).mono ?_; rintro e w3 ⟨v1, rfl, hv1, hr, hm⟩
            have HM3 := Lib.hid (HM1.out.rcvS hr hm 8)
            have K3 : Hid (w3.cell? ⟨wr.heap.size, 0, none⟩ = some (.int .i64 3)) := Lib.hid (hm.cell (by show ¬ c1 wr.heap.size = 2; rw [HP.out]; decide) K0.out)
            have HP3 : Hid (paint c1 (wr.alloc (.cells #[.int .i64 3, .string cb, .int .i64 nb] 49)) w3 8 wr.heap.size = 7) := Lib.hid (paint_away HM1.out.col (by decide) 8 _ HP.out (World.block_lt_of_cell? w3 _ K3.out))
            obtain ⟨c3, hc3⟩ : ∃ c3, c3 = paint c1 (wr.alloc (.cells #[.int .i64 3, .string cb, .int .i64 nb] 49)) w3 8 := ⟨_, rfl⟩
            rw [← hc3] at HM3 HP3
            have HV := Lib.hid hv1.reads
            obtain ⟨r3, hr3⟩ : ∃ r3, r3 = (r.take x).2 := ⟨_, rfl⟩
            obtain ⟨o3, ho3⟩ : ∃ o3, o3 = (r.take x).1 := ⟨_, rfl⟩
            rw [← hr3] at HM3 HL3
            rw [← ho3] at HL3 HV ho1
            clear hm hr hv1 hL3 hc3 hr3 ho3 x0 x1
            go_wp2_with (at_builtin; refine wpList_append_reads Try.elStr rfl (.tmp 109) (.tmp 115) rfl _ _ _ _ rfl HM3.out.ro _ o3.length (o3.map .string) rfl HV.out (by simp) (strs_all _) (by omega) (by unfold maxLen; omega) ?_)
            intro v4 w4 hR hm4
            obtain ⟨a4, c4, rfl, hn4, hc4, _⟩ := hR.form
            obtain ⟨l3, hl3e⟩ : ∃ l3, l3 = lo ++ o3 := ⟨_, rfl⟩
            have hle : lo.length + o3.length = l3.length := by rw [hl3e]; simp
            rw [hle] at hR hn4 ⊢
            rw [← hl3e] at HL3
            have HM4 := Lib.hid (HM3.out.outM (l' := l3) hR hm4 rfl (by rw [hl3e]; simp))
            have K4 : Hid (w4.cell? ⟨wr.heap.size, 0, none⟩ = some (.int .i64 3)) := Lib.hid (hm4.cell (by show ¬ c3 wr.heap.size = 4; rw [HP3.out]; decide) K3.out)
            have HP4 : Hid (paint c3 w3 w4 4 wr.heap.size = 7) := Lib.hid (paint_away HM3.out.col (by decide) 4 _ HP3.out (World.block_lt_of_cell? w4 _ K4.out))
            obtain ⟨c5, hc5⟩ : ∃ c5, c5 = paint c3 w3 w4 4 := ⟨_, rfl⟩
            rw [← hc5] at HM4 HP4
            clear hR hm4 hc5 hle hl3e
            go_wp2_with fail
            refine (Next_any q _ r3 _ HM4.out.rcv).mono ?_; rintro e w' ⟨rfl, rfl⟩
            go_wp2_with (at_builtin; refine wpList_append_one Try.elU32 rfl (.tmp 117) (.tmp 120) rfl #[.int .u32 r3.next] _ _ _ _ (HM4.out.ra.alloc _) _ (allocNew w4 _) rfl rfl rfl (by simp [Value.oneCell']) (by omega) (by unfold maxLen; omega) ?_)
            intro v6 w6 hR hm6
            obtain ⟨a6, c6, rfl, hn6, hc6, _⟩ := hR.form
            obtain ⟨a7, ha7e⟩ : ∃ a7, a7 = acks ++ [r3.next] := ⟨_, rfl⟩
            have hle : acks.length + 1 = a7.length := by rw [ha7e]; simp
            rw [hle] at hR hn6 ⊢
            rw [← ha7e] at HL3
            replace hm6 := (Mod.allocThen hm6).row HM4.out.ra
            have HM6 := Lib.hid (HM4.out.ackM (acks' := a7) (hR.mono fun k hk => hk.imp id fun h => by first | omega | exact allocLe h | (simp; omega)) hm6 rfl (by rw [ha7e]; simp))
            have K6 : Hid (w6.cell? ⟨wr.heap.size, 0, none⟩ = some (.int .i64 3)) := Lib.hid (hm6.cell (by show ¬ c5 wr.heap.size = 6; rw [HP4.out]; decide) K4.out)
            clear hR hm6 hle ha7e
            have k6 := K6.out
            have hg3 : l3.length ≤ li.length := HL3.out.begin.1
            go_wp2_with fail
            clear k6
            obtain ⟨wD, hwD⟩ : ∃ wD, wD = World.drew w6 := ⟨_, rfl⟩
            have hmd := HM6.out.drew
            rw [← hwD] at hmd
            have HMD := Lib.hid hmd
            clear hmd
            have hdr := HMD.out.rn
            have hcd : ∀ (j : Nat) u, (Pkt.vals net)[j]? = some u → wD.cell? ⟨gn, j, none⟩ = some u := fun j u h => by have := hdr.1.cells (g := gn) rfl j u h; rwa [addr_add, Nat.zero_add] at this
            have hgdl : gn < wD.heap.size := hdr.lt gn rfl
            have hj1 : at_ + 1 ≤ net.length := by omega
            have hj2 : at_ ≤ net.length := by omega
            obtain ⟨ad2, had, hadl, hadc⟩ := slice_from (size := 2) hdr.len hcd hj1 hnn
            have HDR := Lib.hid hdr
            have HHC := Lib.hid hcd
            have HAD := Lib.hid had
            have HADL := Lib.hid hadl
            have HADC := Lib.hid hadc
            have hati2 : (at_ : Int) ≤ (cn : Int) := by omega
            have hwj : IntKind.i64.wrap ((at_ : Int) + 1) = ((at_ + 1 : Nat) : Int) := by rw [IntWalk.i64_in _ (by omega)]; rfl
            have HWJ := Lib.hid hwj
            clear hdr hcd had hadl hadc hwj
            have hS : True := trivial
            refine wp_region_plan [0, 4, 9] [(1, 0), (2, 0), (3, 0), (5, 0), (6, 0), (7, 0), (8, 0), (0, 3), (4, 3), (9, 3), (10, 0)] (fun w' : World => True) (by kernel_rfl) (by kernel_rfl) (fun d _ _ _ _ h => by cases d <;> exact h) ?_
            rw [← hwD]
            clear hwD
            repeat (first | (refine plan_skip rfl rfl ?_; simp only [List.getElem_toArray, List.getElem_cons_succ, List.getElem_cons_zero, Act.put, List.setIfInBounds_toArray, List.set_cons_zero, List.set_cons_succ]) | (refine plan_pass2 rfl rfl ?_; simp only [List.getElem_toArray, List.getElem_cons_succ, List.getElem_cons_zero, Act.put, List.setIfInBounds_toArray, List.set_cons_zero, List.set_cons_succ]) | (refine plan_pass3 rfl rfl ?_; simp only [List.getElem_toArray, List.getElem_cons_succ, List.getElem_cons_zero, Act.put, List.setIfInBounds_toArray, List.set_cons_zero, List.set_cons_succ]) | (refine plan_take (v := ?_) rfl rfl ?_ ?_; rotate_left; (focus (intro w0; go_simp; try with_reducible rfl)); simp only [List.getElem_toArray, List.getElem_cons_succ, List.getElem_cons_zero, Act.put, List.setIfInBounds_toArray, List.set_cons_zero, List.set_cons_succ]) | (refine plan_held (v := ?_) rfl rfl hS ?_ ?_; rotate_left; (focus (intro w0 hSw; (try dsimp only at hSw); go_split_ands; go_simp; try with_reducible rfl)); simp only [List.getElem_toArray, List.getElem_cons_succ, List.getElem_cons_zero, Act.put, List.setIfInBounds_toArray, List.set_cons_zero, List.set_cons_succ])  | (refine plan_skip1 rfl rfl hS ?_; simp only [List.getElem_toArray, List.getElem_cons_succ, List.getElem_cons_zero, Act.put, List.setIfInBounds_toArray, List.set_cons_zero, List.set_cons_succ]))
            try simp only [HWJ.out]
            (refine plan_take (v := .slice (some ad2) (net.length - (at_ + 1)) (cn - (at_ + 1))) rfl rfl (fun w0 => exec_slice_from (o := ⟨some 133, .slice 26 (.tmp 130) (some (.tmp 132)) none none, _, _, _, _⟩) Try.elPkt rfl rfl rfl hj1 hnn HAD.out w0) ?_; try simp only [List.getElem_toArray, List.getElem_cons_succ, List.getElem_cons_zero, Act.put, List.setIfInBounds_toArray, List.set_cons_zero, List.set_cons_succ])
            repeat (first | (refine plan_skip rfl rfl ?_; simp only [List.getElem_toArray, List.getElem_cons_succ, List.getElem_cons_zero, Act.put, List.setIfInBounds_toArray, List.set_cons_zero, List.set_cons_succ]) | (refine plan_pass2 rfl rfl ?_; simp only [List.getElem_toArray, List.getElem_cons_succ, List.getElem_cons_zero, Act.put, List.setIfInBounds_toArray, List.set_cons_zero, List.set_cons_succ]) | (refine plan_pass3 rfl rfl ?_; simp only [List.getElem_toArray, List.getElem_cons_succ, List.getElem_cons_zero, Act.put, List.setIfInBounds_toArray, List.set_cons_zero, List.set_cons_succ]) | (refine plan_take (v := ?_) rfl rfl ?_ ?_; rotate_left; (focus (intro w0; go_simp; try with_reducible rfl)); simp only [List.getElem_toArray, List.getElem_cons_succ, List.getElem_cons_zero, Act.put, List.setIfInBounds_toArray, List.set_cons_zero, List.set_cons_succ]) | (refine plan_held (v := ?_) rfl rfl hS ?_ ?_; rotate_left; (focus (intro w0 hSw; (try dsimp only at hSw); go_split_ands; go_simp; try with_reducible rfl)); simp only [List.getElem_toArray, List.getElem_cons_succ, List.getElem_cons_zero, Act.put, List.setIfInBounds_toArray, List.set_cons_zero, List.set_cons_succ])  | (refine plan_skip1 rfl rfl hS ?_; simp only [List.getElem_toArray, List.getElem_cons_succ, List.getElem_cons_zero, Act.put, List.setIfInBounds_toArray, List.set_cons_zero, List.set_cons_succ]))
            (refine plan_end rfl rfl rfl fun K hK => ?_; (try simp only [List.getElem_toArray, List.getElem_cons_succ, List.getElem_cons_zero]); go_simp; refine hK _ _ ?_; clear hK K; try simp only [List.getElem_toArray, List.getElem_cons_succ, List.getElem_cons_zero, Act.put, List.setIfInBounds_toArray, List.set_cons_zero, List.set_cons_succ])
            (refine plan_end rfl rfl rfl fun K hK => ?_; try simp only [List.getElem_toArray, List.getElem_cons_succ, List.getElem_cons_zero])
            have hX1 : (wD.alloc (.cells #[] 36)).heap[wD.heap.size]? = some (.cells #[] 36 (0, 0)) := allocNew wD _
            refine wp_append_row Try.elPkt (.tmp 125) (.tmp 128) rfl (fun k => wD.heap.size ≤ k) (.slice (some ⟨wD.heap.size, 0, none⟩) 0 0) 0 [] rfl (Row.made (cur := #[]) hX1 rfl (by unfold maxLen; omega) (Nat.le_refl _)) ⟨gn, 0, none⟩ at_ cn ((Pkt.vals net).take (at_ * 2)) rfl (by rw [List.length_take, vals_len]; omega) (fun i u hu => ?_) (vals_one _ _) (by omega) (by unfold maxLen; omega) ?_
            · rw [List.getElem?_take] at hu
              split at hu
              · rw [addr_add, Nat.zero_add]; exact allocCell _ (HHC.out _ _ hu)
              · cases hu
            intro v2 w8 hr2 hm2
            have hm2' := Mod.allocThen hm2
            have nb : ∀ x, x < wD.heap.size → ¬ (Value.slice (some ⟨wD.heap.size, 0, none⟩) 0 0).ownBlock = some x := fun x hx e => by simp [Value.ownBlock] at e; omega
            rw [Nat.zero_add, List.nil_append] at hr2
            obtain ⟨ae, cape, rfl, hne, hce, _⟩ := hr2.form
            refine hK _ _ ?_
            clear hK K
            try simp only [List.getElem_toArray, List.getElem_cons_succ, List.getElem_cons_zero, Act.put, List.setIfInBounds_toArray, List.set_cons_zero, List.set_cons_succ]
            have hr2' : Row w8 (fun k => wD.heap.size ≤ k) 36 2 (.slice ae at_ cape) at_ ((Pkt.vals net).take (at_ * 2)) := hr2.mono fun k hk => hk.elim id fun h => by first | omega | exact allocLe h | (simp at h; omega)
            have nb2 : ∀ x, x < wD.heap.size → ¬ (Value.slice ae at_ cape).ownBlock = some x := fun x hx e => by have := hr2'.2 x e; omega
            have HR2 := Lib.hid hr2'
            have HM2 := Lib.hid hm2'
            have NB := Lib.hid nb
            have NB2 := Lib.hid nb2
            clear hr2 hr2' hm2 hm2' nb nb2 hX1
            repeat (first | (refine plan_skip rfl rfl ?_; simp only [List.getElem_toArray, List.getElem_cons_succ, List.getElem_cons_zero, Act.put, List.setIfInBounds_toArray, List.set_cons_zero, List.set_cons_succ]) | (refine plan_pass2 rfl rfl ?_; simp only [List.getElem_toArray, List.getElem_cons_succ, List.getElem_cons_zero, Act.put, List.setIfInBounds_toArray, List.set_cons_zero, List.set_cons_succ]) | (refine plan_pass3 rfl rfl ?_; simp only [List.getElem_toArray, List.getElem_cons_succ, List.getElem_cons_zero, Act.put, List.setIfInBounds_toArray, List.set_cons_zero, List.set_cons_succ]) | (refine plan_take (v := ?_) rfl rfl ?_ ?_; rotate_left; (focus (intro w0; go_simp; try with_reducible rfl)); simp only [List.getElem_toArray, List.getElem_cons_succ, List.getElem_cons_zero, Act.put, List.setIfInBounds_toArray, List.set_cons_zero, List.set_cons_succ]) | (refine plan_held (v := ?_) rfl rfl hS ?_ ?_; rotate_left; (focus (intro w0 hSw; (try dsimp only at hSw); go_split_ands; go_simp; try with_reducible rfl)); simp only [List.getElem_toArray, List.getElem_cons_succ, List.getElem_cons_zero, Act.put, List.setIfInBounds_toArray, List.set_cons_zero, List.set_cons_succ])  | (refine plan_skip1 rfl rfl hS ?_; simp only [List.getElem_toArray, List.getElem_cons_succ, List.getElem_cons_zero, Act.put, List.setIfInBounds_toArray, List.set_cons_zero, List.set_cons_succ]))
            (refine plan_end rfl rfl rfl fun K hK => ?_; try simp only [List.getElem_toArray, List.getElem_cons_succ, List.getElem_cons_zero])
            refine wp_append_row Try.elPkt (.tmp 129) (.tmp 133) rfl (fun k => wD.heap.size ≤ k) (.slice ae at_ cape) at_ ((Pkt.vals net).take (at_ * 2)) rfl HR2.out ad2 (net.length - (at_ + 1)) (cn - (at_ + 1)) ((Pkt.vals net).drop ((at_ + 1) * 2)) rfl HADL.out (fun i u hu => HM2.out.cell (NB.out _ (World.block_lt_of_cell? wD _ (HADC.out i u hu))) (HADC.out i u hu)) (vals_one' _ _) (by omega) (by unfold maxLen; omega) ?_
            intro v3 w9 hr3 hm3
            obtain ⟨af, capf, rfl, hnf, hcf, _⟩ := hr3.form
            refine hK _ _ ?_
            clear hK K
            try simp only [List.getElem_toArray, List.getElem_cons_succ, List.getElem_cons_zero, Act.put, List.setIfInBounds_toArray, List.set_cons_zero, List.set_cons_succ]
            obtain ⟨n9, hn9e⟩ : ∃ n9, n9 = net.take at_ ++ net.drop (at_ + 1) := ⟨_, rfl⟩
            have hle : at_ + (net.length - (at_ + 1)) = n9.length := by rw [hn9e]; simp; omega
            rw [hle] at hr3 hnf ⊢
            have hm9 : Mod (fun _ => False) wD w9 := (HM2.out.mono (G := fun _ => False) fun x hx => .inr (by simp [Value.ownBlock] at hx; omega)).trans hm3 fun x hx => .inr (HR2.out.2 x hx)
            have HM9 := Lib.hid (HMD.out.netM (net' := n9) (hr3.mono fun k hk => .inr (hk.elim id fun h => Nat.le_trans HM2.out.size h)) (hm9.mono fun _ f => f.elim) rfl (by rw [vals_take, vals_drop, ← vals_append, hn9e]))
            have HL9 := Lib.hid (hn9e ▸ HL3.out.drop at_)
            clear hr3 hm3 hm9 hle hn9e HM2 HR2 NB NB2 HADC HADL HAD HHC HDR HWJ hS hati2
            repeat (first | (refine plan_skip rfl rfl ?_; simp only [List.getElem_toArray, List.getElem_cons_succ, List.getElem_cons_zero, Act.put, List.setIfInBounds_toArray, List.set_cons_zero, List.set_cons_succ]) | (refine plan_pass2 rfl rfl ?_; simp only [List.getElem_toArray, List.getElem_cons_succ, List.getElem_cons_zero, Act.put, List.setIfInBounds_toArray, List.set_cons_zero, List.set_cons_succ]) | (refine plan_pass3 rfl rfl ?_; simp only [List.getElem_toArray, List.getElem_cons_succ, List.getElem_cons_zero, Act.put, List.setIfInBounds_toArray, List.set_cons_zero, List.set_cons_succ]) | (refine plan_take (v := ?_) rfl rfl ?_ ?_; rotate_left; (focus (intro w0; go_simp; try with_reducible rfl)); simp only [List.getElem_toArray, List.getElem_cons_succ, List.getElem_cons_zero, Act.put, List.setIfInBounds_toArray, List.set_cons_zero, List.set_cons_succ]) | fail )
            refine plan_nil ?_
            have HLz := HL9
            have hbg := HL9.out.begin
            have hbi : ¬ ((li).length : Int) < ((l3).length : Int) := by omega
            have hbl : (l3).length ≤ (li).length := hbg.1
            have HRT := Lib.hid (reads_take HM9.out.ri hbg.1 hbg.2)
            have HRO := Lib.hid HM9.out.ro.reads
            clear hbg
            obtain ⟨nlo, hnlo⟩ : ∃ nlo, nlo = (l3).length := ⟨_, rfl⟩
            obtain ⟨nli, hnli⟩ : ∃ nli, nli = (li).length := ⟨_, rfl⟩
            go_wp2_with fail
            refine (SameStr_any _ _ (l3) (l3) _ HRO.out HRT.out).mono ?_; rintro e wz ⟨rfl, hm⟩
            have HMz := Lib.hid (HM9.out.still hm 9)
            clear hm
            simp only [decide_true]
            clear hbi hbl hnlo hnli
            go_wp2
            go_roundw
            case rel => exact ⟨j + 1, _, _, _, _, _, _, _, by omega, by omega, by go_num, HMz.out, HLz.out⟩
            case measure => simp [intOf]; omega
          · have HM1 : Hid (OrdM w (wr.alloc (.cells #[.int .i64 4, .string cb, .int .i64 nb] 49)) p q _ _ _ _ _ s r li lo net acks) := Lib.hid (HM.out.still ((Mod.refl _ _).alloc _) 7)
            obtain ⟨c1, hc1, hcp⟩ : ∃ c1, c1 = paint c wr (wr.alloc (.cells #[.int .i64 4, .string cb, .int .i64 nb] 49)) 7 ∧ c1 wr.heap.size = 7 := ⟨_, rfl, paint_born c wr (wr.alloc (.cells #[.int .i64 4, .string cb, .int .i64 nb] 49)) 7 _ (Nat.le_refl _) (by simp)⟩
            rw [← hc1] at HM1
            have HP := Lib.hid hcp
            have K0 : Hid ((wr.alloc (.cells #[.int .i64 4, .string cb, .int .i64 nb] 49)).cell? ⟨wr.heap.size, 0, none⟩ = some (.int .i64 4)) := Lib.hid (cellOf (allocNew wr _) 0)
            have K1 : Hid ((wr.alloc (.cells #[.int .i64 4, .string cb, .int .i64 nb] 49)).cell? ⟨wr.heap.size, 1, none⟩ = some (.string cb)) := Lib.hid (cellOf (allocNew wr _) 1)
            clear hc1 hcp
            have HL3 := Lib.hid HL.out.skip
            go_wp2_with fail
            obtain ⟨gd, hgd, _, _, _⟩ := HGN.out hnet
            cases hgd
            obtain ⟨wD, hwD⟩ : ∃ wD, wD = World.drew (wr.alloc (.cells #[.int .i64 4, .string cb, .int .i64 nb] 49)) := ⟨_, rfl⟩
            have hmd := HM1.out.drew
            rw [← hwD] at hmd
            have HMD := Lib.hid hmd
            clear hmd
            have hdr := HMD.out.rn
            have hcd : ∀ (j : Nat) u, (Pkt.vals net)[j]? = some u → wD.cell? ⟨gd, j, none⟩ = some u := fun j u h => by have := hdr.1.cells (g := gd) rfl j u h; rwa [addr_add, Nat.zero_add] at this
            have hgdl : gd < wD.heap.size := hdr.lt gd rfl
            have hj1 : at_ + 1 ≤ net.length := by omega
            have hj2 : at_ ≤ net.length := by omega
            obtain ⟨ad2, had, hadl, hadc⟩ := slice_from (size := 2) hdr.len hcd hj1 hnn
            have HDR := Lib.hid hdr
            have HHC := Lib.hid hcd
            have HAD := Lib.hid had
            have HADL := Lib.hid hadl
            have HADC := Lib.hid hadc
            have hati2 : (at_ : Int) ≤ (cn : Int) := by omega
            have hwj : IntKind.i64.wrap ((at_ : Int) + 1) = ((at_ + 1 : Nat) : Int) := by rw [IntWalk.i64_in _ (by omega)]; rfl
            have HWJ := Lib.hid hwj
            clear hdr hcd had hadl hadc hwj
            have hS : True := trivial
            refine wp_region_plan [0, 4, 9] [(1, 0), (2, 0), (3, 0), (5, 0), (6, 0), (7, 0), (8, 0), (0, 3), (4, 3), (9, 3), (10, 0)] (fun w' : World => True) (by kernel_rfl) (by kernel_rfl) (fun d _ _ _ _ h => by cases d <;> exact h) ?_
            rw [← hwD]
            clear hwD
            repeat (first | (refine plan_skip rfl rfl ?_; simp only [List.getElem_toArray, List.getElem_cons_succ, List.getElem_cons_zero, Act.put, List.setIfInBounds_toArray, List.set_cons_zero, List.set_cons_succ]) | (refine plan_pass2 rfl rfl ?_; simp only [List.getElem_toArray, List.getElem_cons_succ, List.getElem_cons_zero, Act.put, List.setIfInBounds_toArray, List.set_cons_zero, List.set_cons_succ]) | (refine plan_pass3 rfl rfl ?_; simp only [List.getElem_toArray, List.getElem_cons_succ, List.getElem_cons_zero, Act.put, List.setIfInBounds_toArray, List.set_cons_zero, List.set_cons_succ]) | (refine plan_take (v := ?_) rfl rfl ?_ ?_; rotate_left; (focus (intro w0; go_simp; try with_reducible rfl)); simp only [List.getElem_toArray, List.getElem_cons_succ, List.getElem_cons_zero, Act.put, List.setIfInBounds_toArray, List.set_cons_zero, List.set_cons_succ]) | (refine plan_held (v := ?_) rfl rfl hS ?_ ?_; rotate_left; (focus (intro w0 hSw; (try dsimp only at hSw); go_split_ands; go_simp; try with_reducible rfl)); simp only [List.getElem_toArray, List.getElem_cons_succ, List.getElem_cons_zero, Act.put, List.setIfInBounds_toArray, List.set_cons_zero, List.set_cons_succ])  | (refine plan_skip1 rfl rfl hS ?_; simp only [List.getElem_toArray, List.getElem_cons_succ, List.getElem_cons_zero, Act.put, List.setIfInBounds_toArray, List.set_cons_zero, List.set_cons_succ]))
            try simp only [HWJ.out]
            (refine plan_take (v := .slice (some ad2) (net.length - (at_ + 1)) (cn - (at_ + 1))) rfl rfl (fun w0 => exec_slice_from (o := ⟨some 133, .slice 26 (.tmp 130) (some (.tmp 132)) none none, _, _, _, _⟩) Try.elPkt rfl rfl rfl hj1 hnn HAD.out w0) ?_; try simp only [List.getElem_toArray, List.getElem_cons_succ, List.getElem_cons_zero, Act.put, List.setIfInBounds_toArray, List.set_cons_zero, List.set_cons_succ])
            repeat (first | (refine plan_skip rfl rfl ?_; simp only [List.getElem_toArray, List.getElem_cons_succ, List.getElem_cons_zero, Act.put, List.setIfInBounds_toArray, List.set_cons_zero, List.set_cons_succ]) | (refine plan_pass2 rfl rfl ?_; simp only [List.getElem_toArray, List.getElem_cons_succ, List.getElem_cons_zero, Act.put, List.setIfInBounds_toArray, List.set_cons_zero, List.set_cons_succ]) | (refine plan_pass3 rfl rfl ?_; simp only [List.getElem_toArray, List.getElem_cons_succ, List.getElem_cons_zero, Act.put, List.setIfInBounds_toArray, List.set_cons_zero, List.set_cons_succ]) | (refine plan_take (v := ?_) rfl rfl ?_ ?_; rotate_left; (focus (intro w0; go_simp; try with_reducible rfl)); simp only [List.getElem_toArray, List.getElem_cons_succ, List.getElem_cons_zero, Act.put, List.setIfInBounds_toArray, List.set_cons_zero, List.set_cons_succ]) | (refine plan_held (v := ?_) rfl rfl hS ?_ ?_; rotate_left; (focus (intro w0 hSw; (try dsimp only at hSw); go_split_ands; go_simp; try with_reducible rfl)); simp only [List.getElem_toArray, List.getElem_cons_succ, List.getElem_cons_zero, Act.put, List.setIfInBounds_toArray, List.set_cons_zero, List.set_cons_succ])  | (refine plan_skip1 rfl rfl hS ?_; simp only [List.getElem_toArray, List.getElem_cons_succ, List.getElem_cons_zero, Act.put, List.setIfInBounds_toArray, List.set_cons_zero, List.set_cons_succ]))
            (refine plan_end rfl rfl rfl fun K hK => ?_; (try simp only [List.getElem_toArray, List.getElem_cons_succ, List.getElem_cons_zero]); go_simp; refine hK _ _ ?_; clear hK K; try simp only [List.getElem_toArray, List.getElem_cons_succ, List.getElem_cons_zero, Act.put, List.setIfInBounds_toArray, List.set_cons_zero, List.set_cons_succ])
            (refine plan_end rfl rfl rfl fun K hK => ?_; try simp only [List.getElem_toArray, List.getElem_cons_succ, List.getElem_cons_zero])
            have hX1 : (wD.alloc (.cells #[] 36)).heap[wD.heap.size]? = some (.cells #[] 36 (0, 0)) := allocNew wD _
            refine wp_append_row Try.elPkt (.tmp 125) (.tmp 128) rfl (fun k => wD.heap.size ≤ k) (.slice (some ⟨wD.heap.size, 0, none⟩) 0 0) 0 [] rfl (Row.made (cur := #[]) hX1 rfl (by unfold maxLen; omega) (Nat.le_refl _)) ⟨gd, 0, none⟩ at_ cn ((Pkt.vals net).take (at_ * 2)) rfl (by rw [List.length_take, vals_len]; omega) (fun i u hu => ?_) (vals_one _ _) (by omega) (by unfold maxLen; omega) ?_
            · rw [List.getElem?_take] at hu
              split at hu
              · rw [addr_add, Nat.zero_add]; exact allocCell _ (HHC.out _ _ hu)
              · cases hu
            intro v2 w8 hr2 hm2
            have hm2' := Mod.allocThen hm2
            have nb : ∀ x, x < wD.heap.size → ¬ (Value.slice (some ⟨wD.heap.size, 0, none⟩) 0 0).ownBlock = some x := fun x hx e => by simp [Value.ownBlock] at e; omega
            rw [Nat.zero_add, List.nil_append] at hr2
            obtain ⟨ae, cape, rfl, hne, hce, _⟩ := hr2.form
            refine hK _ _ ?_
            clear hK K
            try simp only [List.getElem_toArray, List.getElem_cons_succ, List.getElem_cons_zero, Act.put, List.setIfInBounds_toArray, List.set_cons_zero, List.set_cons_succ]
            have hr2' : Row w8 (fun k => wD.heap.size ≤ k) 36 2 (.slice ae at_ cape) at_ ((Pkt.vals net).take (at_ * 2)) := hr2.mono fun k hk => hk.elim id fun h => by first | omega | exact allocLe h | (simp at h; omega)
            have nb2 : ∀ x, x < wD.heap.size → ¬ (Value.slice ae at_ cape).ownBlock = some x := fun x hx e => by have := hr2'.2 x e; omega
            have HR2 := Lib.hid hr2'
            have HM2 := Lib.hid hm2'
            have NB := Lib.hid nb
            have NB2 := Lib.hid nb2
            clear hr2 hr2' hm2 hm2' nb nb2 hX1
            repeat (first | (refine plan_skip rfl rfl ?_; simp only [List.getElem_toArray, List.getElem_cons_succ, List.getElem_cons_zero, Act.put, List.setIfInBounds_toArray, List.set_cons_zero, List.set_cons_succ]) | (refine plan_pass2 rfl rfl ?_; simp only [List.getElem_toArray, List.getElem_cons_succ, List.getElem_cons_zero, Act.put, List.setIfInBounds_toArray, List.set_cons_zero, List.set_cons_succ]) | (refine plan_pass3 rfl rfl ?_; simp only [List.getElem_toArray, List.getElem_cons_succ, List.getElem_cons_zero, Act.put, List.setIfInBounds_toArray, List.set_cons_zero, List.set_cons_succ]) | (refine plan_take (v := ?_) rfl rfl ?_ ?_; rotate_left; (focus (intro w0; go_simp; try with_reducible rfl)); simp only [List.getElem_toArray, List.getElem_cons_succ, List.getElem_cons_zero, Act.put, List.setIfInBounds_toArray, List.set_cons_zero, List.set_cons_succ]) | (refine plan_held (v := ?_) rfl rfl hS ?_ ?_; rotate_left; (focus (intro w0 hSw; (try dsimp only at hSw); go_split_ands; go_simp; try with_reducible rfl)); simp only [List.getElem_toArray, List.getElem_cons_succ, List.getElem_cons_zero, Act.put, List.setIfInBounds_toArray, List.set_cons_zero, List.set_cons_succ])  | (refine plan_skip1 rfl rfl hS ?_; simp only [List.getElem_toArray, List.getElem_cons_succ, List.getElem_cons_zero, Act.put, List.setIfInBounds_toArray, List.set_cons_zero, List.set_cons_succ]))
            (refine plan_end rfl rfl rfl fun K hK => ?_; try simp only [List.getElem_toArray, List.getElem_cons_succ, List.getElem_cons_zero])
            refine wp_append_row Try.elPkt (.tmp 129) (.tmp 133) rfl (fun k => wD.heap.size ≤ k) (.slice ae at_ cape) at_ ((Pkt.vals net).take (at_ * 2)) rfl HR2.out ad2 (net.length - (at_ + 1)) (cn - (at_ + 1)) ((Pkt.vals net).drop ((at_ + 1) * 2)) rfl HADL.out (fun i u hu => HM2.out.cell (NB.out _ (World.block_lt_of_cell? wD _ (HADC.out i u hu))) (HADC.out i u hu)) (vals_one' _ _) (by omega) (by unfold maxLen; omega) ?_
            intro v3 w9 hr3 hm3
            obtain ⟨af, capf, rfl, hnf, hcf, _⟩ := hr3.form
            refine hK _ _ ?_
            clear hK K
            try simp only [List.getElem_toArray, List.getElem_cons_succ, List.getElem_cons_zero, Act.put, List.setIfInBounds_toArray, List.set_cons_zero, List.set_cons_succ]
            obtain ⟨n9, hn9e⟩ : ∃ n9, n9 = net.take at_ ++ net.drop (at_ + 1) := ⟨_, rfl⟩
            have hle : at_ + (net.length - (at_ + 1)) = n9.length := by rw [hn9e]; simp; omega
            rw [hle] at hr3 hnf ⊢
            have hm9 : Mod (fun _ => False) wD w9 := (HM2.out.mono (G := fun _ => False) fun x hx => .inr (by simp [Value.ownBlock] at hx; omega)).trans hm3 fun x hx => .inr (HR2.out.2 x hx)
            have HM9 := Lib.hid (HMD.out.netM (net' := n9) (hr3.mono fun k hk => .inr (hk.elim id fun h => Nat.le_trans HM2.out.size h)) (hm9.mono fun _ f => f.elim) rfl (by rw [vals_take, vals_drop, ← vals_append, hn9e]))
            have HL9 := Lib.hid (hn9e ▸ HL3.out.drop at_)
            clear hr3 hm3 hm9 hle hn9e HM2 HR2 NB NB2 HADC HADL HAD HHC HDR HWJ hS hati2
            repeat (first | (refine plan_skip rfl rfl ?_; simp only [List.getElem_toArray, List.getElem_cons_succ, List.getElem_cons_zero, Act.put, List.setIfInBounds_toArray, List.set_cons_zero, List.set_cons_succ]) | (refine plan_pass2 rfl rfl ?_; simp only [List.getElem_toArray, List.getElem_cons_succ, List.getElem_cons_zero, Act.put, List.setIfInBounds_toArray, List.set_cons_zero, List.set_cons_succ]) | (refine plan_pass3 rfl rfl ?_; simp only [List.getElem_toArray, List.getElem_cons_succ, List.getElem_cons_zero, Act.put, List.setIfInBounds_toArray, List.set_cons_zero, List.set_cons_succ]) | (refine plan_take (v := ?_) rfl rfl ?_ ?_; rotate_left; (focus (intro w0; go_simp; try with_reducible rfl)); simp only [List.getElem_toArray, List.getElem_cons_succ, List.getElem_cons_zero, Act.put, List.setIfInBounds_toArray, List.set_cons_zero, List.set_cons_succ]) | fail )
            refine plan_nil ?_
            have HLz := HL9
            have hbg := HL9.out.begin
            have hbi : ¬ ((li).length : Int) < ((lo).length : Int) := by omega
            have hbl : (lo).length ≤ (li).length := hbg.1
            have HRT := Lib.hid (reads_take HM9.out.ri hbg.1 hbg.2)
            have HRO := Lib.hid HM9.out.ro.reads
            clear hbg
            obtain ⟨nlo, hnlo⟩ : ∃ nlo, nlo = (lo).length := ⟨_, rfl⟩
            obtain ⟨nli, hnli⟩ : ∃ nli, nli = (li).length := ⟨_, rfl⟩
            go_wp2_with fail
            refine (SameStr_any _ _ (lo) (lo) _ HRO.out HRT.out).mono ?_; rintro e wz ⟨rfl, hm⟩
            have HMz := Lib.hid (HM9.out.still hm 9)
            clear hm
            simp only [decide_true]
            clear hbi hbl hnlo hnli
            go_wp2
            go_roundw
            case rel => exact ⟨j + 1, _, _, _, _, _, _, _, by omega, by omega, by go_num, HMz.out, HLz.out⟩
            case measure => simp [intOf]; omega
          · have HM1 : Hid (OrdM w (wr.alloc (.cells #[.int .i64 5, .string cb, .int .i64 nb] 49)) p q _ _ _ _ _ s r li lo net acks) := Lib.hid (HM.out.still ((Mod.refl _ _).alloc _) 7)
            obtain ⟨c1, hc1, hcp⟩ : ∃ c1, c1 = paint c wr (wr.alloc (.cells #[.int .i64 5, .string cb, .int .i64 nb] 49)) 7 ∧ c1 wr.heap.size = 7 := ⟨_, rfl, paint_born c wr (wr.alloc (.cells #[.int .i64 5, .string cb, .int .i64 nb] 49)) 7 _ (Nat.le_refl _) (by simp)⟩
            rw [← hc1] at HM1
            have HP := Lib.hid hcp
            have K0 : Hid ((wr.alloc (.cells #[.int .i64 5, .string cb, .int .i64 nb] 49)).cell? ⟨wr.heap.size, 0, none⟩ = some (.int .i64 5)) := Lib.hid (cellOf (allocNew wr _) 0)
            have K1 : Hid ((wr.alloc (.cells #[.int .i64 5, .string cb, .int .i64 nb] 49)).cell? ⟨wr.heap.size, 1, none⟩ = some (.string cb)) := Lib.hid (cellOf (allocNew wr _) 1)
            clear hc1 hcp
            obtain ⟨gn, rfl, _, hgnl, hcn2⟩ := HGN.out hnet
            obtain ⟨x, hx⟩ : ∃ x, x = net[at_]'hat := ⟨_, rfl⟩
            have hxm : x ∈ net := hx ▸ List.getElem_mem hat
            have x0 : (wr.alloc (.cells #[.int .i64 5, .string cb, .int .i64 nb] 49)).cell? ⟨gn, at_ * 2, none⟩ = some (.int .u32 x.seq) := allocCell _ (hx ▸ hcn2 _ _ (vals_get net at_ hat).1)
            have x1 : (wr.alloc (.cells #[.int .i64 5, .string cb, .int .i64 nb] 49)).cell? ⟨gn, at_ * 2 + 1, none⟩ = some (.string x.body) := allocCell _ (hx ▸ hcn2 _ _ (vals_get net at_ hat).2)
            have HX := Lib.hid hx
            have hati : (at_ : Int) < (net.length : Int) := by omega
            clear hx hcn2
            go_wp2_with (at_builtin; refine wpList_append_one Try.elPkt rfl (.tmp 135) (.tmp 140) rfl #[.int .u32 x.seq, .string x.body] _ _ _ _ (HM1.out.rn.alloc _) (wr.heap.size + 1) (by simpa using allocNew (wr.alloc (.cells #[.int .i64 5, .string cb, .int .i64 nb] 49)) (.cells #[.int .u32 x.seq, .string x.body] 36)) rfl rfl rfl (by simp [Value.oneCell']) (by omega) (by unfold maxLen; omega) ?_)
            intro v4 w4 hR hm4
            obtain ⟨a4, c4, rfl, hn4, hc4, _⟩ := hR.form
            obtain ⟨n2, hn2e⟩ : ∃ n2, n2 = net ++ [x] := ⟨_, rfl⟩
            have hle : net.length + 1 = n2.length := by rw [hn2e]; simp
            rw [hle] at hR hn4 ⊢
            have HM4 := Lib.hid (HM1.out.netM (net' := n2) (hR.mono fun k hk => hk.imp id fun h => by first | omega | exact allocLe h | (simp; omega)) ((Mod.allocThen hm4).row HM1.out.rn) rfl (by rw [hn2e]; simp [vals_append, Pkt.vals]))
            have HL3 := Lib.hid (hn2e ▸ HL.out.twice hxm)
            clear hR hm4 x0 x1 hle hn2e
            have HLz := HL3
            have hbg := HL3.out.begin
            have hbi : ¬ ((li).length : Int) < ((lo).length : Int) := by omega
            have hbl : (lo).length ≤ (li).length := hbg.1
            have HRT := Lib.hid (reads_take HM4.out.ri hbg.1 hbg.2)
            have HRO := Lib.hid HM4.out.ro.reads
            clear hbg
            obtain ⟨nlo, hnlo⟩ : ∃ nlo, nlo = (lo).length := ⟨_, rfl⟩
            obtain ⟨nli, hnli⟩ : ∃ nli, nli = (li).length := ⟨_, rfl⟩
            go_wp2_with fail
            refine (SameStr_any _ _ (lo) (lo) _ HRO.out HRT.out).mono ?_; rintro e wz ⟨rfl, hm⟩
            have HMz := Lib.hid (HM4.out.still hm 9)
            clear hm
            simp only [decide_true]
            clear hbi hbl hnlo hnli
            go_wp2
            go_roundw
            case rel => exact ⟨j + 1, _, _, _, _, _, _, _, by omega, by omega, by go_num, HMz.out, HLz.out⟩
            case measure => simp [intOf]; omega
          · have HM1 : Hid (OrdM w (wr.alloc (.cells #[.int .i64 kd, .string cb, .int .i64 nb] 49)) p q _ _ _ _ _ s r li lo net acks) := Lib.hid (HM.out.still ((Mod.refl _ _).alloc _) 7)
            obtain ⟨c1, hc1, hcp⟩ : ∃ c1, c1 = paint c wr (wr.alloc (.cells #[.int .i64 kd, .string cb, .int .i64 nb] 49)) 7 ∧ c1 wr.heap.size = 7 := ⟨_, rfl, paint_born c wr (wr.alloc (.cells #[.int .i64 kd, .string cb, .int .i64 nb] 49)) 7 _ (Nat.le_refl _) (by simp)⟩
            rw [← hc1] at HM1
            have HP := Lib.hid hcp
            have K0 : Hid ((wr.alloc (.cells #[.int .i64 kd, .string cb, .int .i64 nb] 49)).cell? ⟨wr.heap.size, 0, none⟩ = some (.int .i64 kd)) := Lib.hid (cellOf (allocNew wr _) 0)
            have K1 : Hid ((wr.alloc (.cells #[.int .i64 kd, .string cb, .int .i64 nb] 49)).cell? ⟨wr.heap.size, 1, none⟩ = some (.string cb)) := Lib.hid (cellOf (allocNew wr _) 1)
            clear hc1 hcp
            have q0 : ¬ kd = 0 := by omega
            have q1 : ¬ kd = 1 := by omega
            have q2 : ¬ kd = 2 := by omega
            have q3 : ¬ kd = 3 := by omega
            have q4 : ¬ kd = 4 := by omega
            have q5 : ¬ kd = 5 := by omega
            by_cases hak : 0 < acks.length
            · have haki : (0 : Int) < (acks.length : Int) := by omega
              have haz : ¬ (acks.length : Int) = 0 := by omega
              have f2 : IntKind.u64.wrap (acks.length : Int) = acks.length := IntWalk.u64_in _ (by omega)
              obtain ⟨ka, hka, f3⟩ : ∃ ka : Nat, ka < acks.length ∧ nu.tmod (acks.length : Int) = ka := by
                have b0 := Int.tmod_nonneg (acks.length : Int) hnu0
                have b1 := Int.tmod_lt_of_pos nu haki
                exact ⟨(nu.tmod (acks.length : Int)).toNat, by omega, by omega⟩
              have f4 : IntKind.u64.wrap (ka : Int) = ka := IntWalk.u64_in _ (by omega)
              have f5 : IntKind.i64.wrap (ka : Int) = ka := IntWalk.i64_in _ (by omega)
              obtain ⟨ga, rfl, _, hgal, hca2⟩ := HGA.out hak
              obtain ⟨y, hy⟩ : ∃ y, y = acks[ka]'hka := ⟨_, rfl⟩
              have hym : y ∈ acks := hy ▸ List.getElem_mem hka
              have y0 : (wr.alloc (.cells #[.int .i64 kd, .string cb, .int .i64 nb] 49)).cell? ⟨ga, ka, none⟩ = some (.int .u32 y) := allocCell _ (hca2 _ _ (by simp [hka, hy]))
              have hkai : (ka : Int) < (acks.length : Int) := by omega
              clear hy hca2
              obtain ⟨hy0, hy1, hL3⟩ := HL.out.ack hym
              have HL3 := Lib.hid hL3
              clear hL3
              go_wp2_with fail
              refine (Ack_any p _ s y _ HM1.out.snd hy0 hy1).mono ?_; rintro e w3 ⟨rfl, hr, hm⟩
              have HM4 := Lib.hid (HM1.out.sndM hr hm)
              clear hr hm y0 f2 f3 f4 f5 haz
              have HLz := HL3
              have hbg := HL3.out.begin
              have hbi : ¬ ((li).length : Int) < ((lo).length : Int) := by omega
              have hbl : (lo).length ≤ (li).length := hbg.1
              have HRT := Lib.hid (reads_take HM4.out.ri hbg.1 hbg.2)
              have HRO := Lib.hid HM4.out.ro.reads
              clear hbg
              obtain ⟨nlo, hnlo⟩ : ∃ nlo, nlo = (lo).length := ⟨_, rfl⟩
              obtain ⟨nli, hnli⟩ : ∃ nli, nli = (li).length := ⟨_, rfl⟩
              go_wp2_with fail
              refine (SameStr_any _ _ (lo) (lo) _ HRO.out HRT.out).mono ?_; rintro e wz ⟨rfl, hm⟩
              have HMz := Lib.hid (HM4.out.still hm 9)
              clear hm
              simp only [decide_true]
              clear hbi hbl hnlo hnli
              go_wp2
              go_roundw
              case rel => exact ⟨j + 1, _, _, _, _, _, _, _, by omega, by omega, by go_num, HMz.out, HLz.out⟩
              case measure => simp [intOf]; omega
            · have haki : ¬ (0 : Int) < (acks.length : Int) := by omega
              have HL3 := Lib.hid HL.out.skip
              have HLz := HL3
              have hbg := HL3.out.begin
              have hbi : ¬ ((li).length : Int) < ((lo).length : Int) := by omega
              have hbl : (lo).length ≤ (li).length := hbg.1
              have HRT := Lib.hid (reads_take HM1.out.ri hbg.1 hbg.2)
              have HRO := Lib.hid HM1.out.ro.reads
              clear hbg
              obtain ⟨nlo, hnlo⟩ : ∃ nlo, nlo = (lo).length := ⟨_, rfl⟩
              obtain ⟨nli, hnli⟩ : ∃ nli, nli = (li).length := ⟨_, rfl⟩
              go_wp2_with fail
              refine (SameStr_any _ _ (lo) (lo) _ HRO.out HRT.out).mono ?_; rintro e wz ⟨rfl, hm⟩
              have HMz := Lib.hid (HM1.out.still hm 9)
              clear hm
              simp only [decide_true]
              clear hbi hbl hnlo hnli
              go_wp2
              go_roundw
              case rel => exact ⟨j + 1, _, _, _, _, _, _, _, by omega, by omega, by go_num, HMz.out, HLz.out⟩
              case measure => simp [intOf]; omega
      · have hki : (j : Int) < (n : Int) := by omega
        have hki4 : ¬ (j : Int) < 60 := by omega
        have HE := Lib.hid (HL.out.over (by omega))
        clear HL HGN HGA hl1 hl2 hl3 hl4
        go_wp2_with fail
        go_loopw [10, 16] (fun vo i wr => ∃ (k : Nat) (c : Nat → Nat) (s : Snd) (r : Rcv) (lo : List ByteArray), k ≤ 60 ∧ i = .int .i64 k ∧ OrdM w wr p q (.slice ai li.length ci) vo (.slice an net.length cn) (.slice aa acks.length ca) c s r li lo net acks ∧ OrdE a0 s r li lo k) (fun _ i _ => 60 - (intOf i).toNat)
        case atStart => exact ⟨0, _, _, _, _, Nat.zero_le _, rfl, HM.out, HE.out⟩
        case round =>
          obtain ⟨k, c, s, r, lo, hk, rfl, hM, hE⟩ := hrel
          obtain ⟨ao, co, rfl, hno, hco, _⟩ := hM.ro.form
          clear HM HE
          have HM := Lib.hid hM
          have HE := Lib.hid hE
          clear hM hE
          by_cases hk60 : k < 60
          · have hki : (k : Int) < 60 := by omega
            obtain ⟨hln, nn, hnn64, hag, hI⟩ := HE.out.send
            have HI := Lib.hid hI
            have HAG := Lib.hid hag
            clear hI hag hln
            go_wp2_with fail
            refine (Send_any p _ s _ HM.out.snd).mono ?_; rintro e w3 ⟨v1, rfl, hv1, hr, hm⟩
            obtain ⟨c3, hM3⟩ : ∃ c3, OrdM w w3 p q _ _ _ _ c3 s.send r li lo net acks := ⟨_, HM.out.sndS hr hm 7⟩
            have HM3 := Lib.hid hM3
            clear hv1 hr hm hM3
            go_wp2_with fail
            refine (Again_any p _ s.send _ HM3.out.snd).mono ?_; rintro e w4 ⟨v2, rfl, hv2, hm⟩
            obtain ⟨s4, hs4⟩ : ∃ s4, s4 = s.send := ⟨_, rfl⟩
            rw [← hs4] at HM3 HI HAG hv2
            rw [HAG.out] at hv2
            obtain ⟨c4, hM4, hV⟩ : ∃ c4, OrdM w w4 p q _ _ _ _ c4 s4 r li lo net acks ∧ Row w4 (fun k => c4 k = 8) 36 2 v2 nn (Pkt.vals s4.again) := ⟨_, HM3.out.still hm 8, hv2.born c3 8⟩
            obtain ⟨a2, cc2, rfl, hn2, hcc2, _⟩ := hV.form
            have HM4 := Lib.hid hM4
            have HV4 := Lib.hid hV
            clear hM4 hV hv2 hm hs4 HM3 HM HE
            go_wp2_with fail
            go_loopw [10, 18] (fun vo i wr => ∃ (m : Nat) (c : Nat → Nat) (r : Rcv) (lo : List ByteArray), m ≤ nn ∧ i = .int .i64 m ∧ OrdM w wr p q (.slice ai li.length ci) vo (.slice an net.length cn) (.slice aa acks.length ca) c s4 r li lo net acks ∧ Row wr (fun k => c k = 8) 36 2 (.slice a2 nn cc2) nn (Pkt.vals s4.again) ∧ OrdI a0 s4 r li lo k nn m) (fun _ i _ => nn - (intOf i).toNat)
            case atStart => exact ⟨0, _, _, _, Nat.zero_le _, rfl, HM4.out, HV4.out, HI.out⟩
            case round =>
              obtain ⟨m, c, r, lo, hm, rfl, hM, hV, hI⟩ := hrel
              obtain ⟨ao, co, rfl, hno, hco, _⟩ := hM.ro.form
              clear HM4 HV4 HI
              have HM := Lib.hid hM
              have HV := Lib.hid hV
              have HI := Lib.hid hI
              clear hM hV hI
              by_cases hmn : m < nn
              · have hmi : (m : Int) < (nn : Int) := by omega
                obtain ⟨x, hx, hq0, hq1, ho1, ho2, hI2⟩ := HI.out.at_ hmn HM.out.rcv.1
                have HI2 := Lib.hid hI2
                obtain ⟨ix, hix⟩ : ∃ ix, ix = nn - 1 - m := ⟨_, rfl⟩
                obtain ⟨n1, hn1⟩ : ∃ n1, n1 = nn - 1 := ⟨_, rfl⟩
                have e1 : IntKind.i64.wrap ((nn : Int) - 1) = (n1 : Int) := by rw [IntWalk.i64_in _ (by omega)]; omega
                have e2 : IntKind.i64.wrap ((n1 : Int) - (m : Int)) = (ix : Int) := by rw [IntWalk.i64_in _ (by omega)]; omega
                have hixn : (ix : Int) < (nn : Int) := by omega
                rw [← hix] at hx
                obtain ⟨hlt2, hx2⟩ := List.getElem?_eq_some_iff.1 hx
                obtain ⟨ad9, cap9, e9, _, _, hcl⟩ := HV.out.form
                cases e9
                obtain ⟨g2, rfl, _, _, hcl⟩ := hcl (by omega)
                have x0 : wr.cell? ⟨g2, ix * 2, none⟩ = some (.int .u32 x.seq) := hcl _ _ (hx2 ▸ (vals_get s4.again ix hlt2).1)
                have x1 : wr.cell? ⟨g2, ix * 2 + 1, none⟩ = some (.string x.body) := hcl _ _ (hx2 ▸ (vals_get s4.again ix hlt2).2)
                clear hcl hx hx2 hlt2 hix hn1 hI2
                go_wp2_with fail
                have HQ : Hid (x.val = .agg #[.int .u32 x.seq, .string x.body]) := Lib.hid rfl
                rw [← HQ.out]
                refine (Take_any q _ r x _ HM.out.rcv hq0 hq1 (HM.out.col.lt (by decide))).mono ?_; rintro e w5 ⟨v1, rfl, hv1, hr, hm5⟩
                obtain ⟨r3, hr3⟩ : ∃ r3, r3 = (r.take x).2 := ⟨_, rfl⟩
                obtain ⟨o3, ho3⟩ : ∃ o3, o3 = (r.take x).1 := ⟨_, rfl⟩
                rw [← hr3] at hr HI2
                rw [← ho3] at HI2 hv1 ho1
                obtain ⟨c5, hM5, hV5⟩ : ∃ c5, OrdM w w5 p q _ _ _ _ c5 s4 r3 li lo net acks ∧ Row w5 (fun k => c5 k = 8) 36 2 _ nn (Pkt.vals s4.again) := ⟨_, HM.out.rcvS hr hm5 7, HV.out.away HM.out.col hm5 (by decide) (by decide) 7⟩
                have HM5 := Lib.hid hM5
                have HV5 := Lib.hid hV5
                have HR5 := Lib.hid hv1.reads
                clear hM5 hV5 hv1 hr hm5 hr3 ho3 HM HV x0 x1 e1 e2 hixn
                go_wp2_with (at_builtin; refine wpList_append_reads Try.elStr rfl (.tmp 170) (.tmp 180) rfl _ _ _ _ rfl HM5.out.ro _ o3.length (o3.map .string) rfl HR5.out (by simp) (strs_all _) (by omega) (by unfold maxLen; omega) ?_)
                intro v6 w6 hR hm6
                obtain ⟨a6, c6, rfl, hn6, hc6, _⟩ := hR.form
                obtain ⟨l3, hl3e⟩ : ∃ l3, l3 = lo ++ o3 := ⟨_, rfl⟩
                have hle : lo.length + o3.length = l3.length := by rw [hl3e]; simp
                rw [hle] at hR hn6 ⊢
                rw [← hl3e] at HI2
                obtain ⟨c7, hM7, hV7⟩ : ∃ c7, OrdM w w6 p q _ _ _ _ c7 s4 r3 li l3 net acks ∧ Row w6 (fun k => c7 k = 8) 36 2 _ nn (Pkt.vals s4.again) := ⟨_, HM5.out.outM (l' := l3) hR hm6 rfl (by rw [hl3e]; simp), HV5.out.away HM5.out.col hm6 (by decide) (by decide) 4⟩
                have HM7 := Lib.hid hM7
                have HV7 := Lib.hid hV7
                clear hR hm6 hle hl3e hM7 hV7 HM5 HV5 HR5
                go_wp2
                go_roundw
                case rel => exact ⟨m + 1, _, _, _, by omega, by go_num, HM7.out, HV7.out, HI2.out⟩
                case measure => simp [intOf]; omega
              · have hmi : ¬ (m : Int) < (nn : Int) := by omega
                obtain rfl : m = nn := by omega
                obtain ⟨hq0, hq1, hE2⟩ := HI.out.done
                have HE2 := Lib.hid hE2
                clear hE2
                go_wp2_with fail
                refine (Next_any q _ r _ HM.out.rcv).mono ?_; rintro e w' ⟨rfl, rfl⟩
                go_wp2_with fail
                refine (Ack_any p _ s4 r.next _ HM.out.snd hq0 hq1).mono ?_; rintro e w5 ⟨rfl, hr, hm5⟩
                have HM5 := Lib.hid (HM.out.sndM hr hm5)
                clear hr hm5
                go_wp2
                go_roundw
                case rel => exact ⟨k + 1, _, _, _, _, by omega, by go_num, HM5.out, HE2.out⟩
                case measure => simp [intOf]; omega
          · have hki : ¬ (k : Int) < 60 := by omega
            obtain rfl : k = 60 := by omega
            obtain ⟨hlo, hb0⟩ := HE.out.last
            subst hlo
            have HB0 := Lib.hid hb0
            clear hb0
            go_wp2_with fail
            refine (SameStr_any _ _ lo lo _ HM.out.ro.reads HM.out.ri.reads).mono ?_; rintro e w3 ⟨rfl, hm⟩
            have HM3 := Lib.hid (HM.out.still hm 9)
            clear hm
            simp only [decide_true]
            go_wp2_with fail
            refine (Open_any p _ s _ HM3.out.snd).mono ?_; rintro e w' ⟨rfl, rfl⟩
            rw [HB0.out]
            have HMM := Lib.hid HM3.out.col.mod
            go_wp2_with fail
            refine (lives28_any _).mono ?_; rintro e w4 ⟨rfl, hm⟩
            have HM4 := Lib.hid (HMM.out.trans hm fun _ f => f.elim)
            clear hm
            go_wp2
            go_ret
            exact ⟨rfl, HM4.out⟩
    · have hki : ¬ (j : Int) < (n : Int) := by omega
      have HE := Lib.hid (HL.out.over (by omega))
      clear HL HGN HGA hl1 hl2 hl3 hl4
      go_wp2_with fail
      go_loopw [10, 16] (fun vo i wr => ∃ (k : Nat) (c : Nat → Nat) (s : Snd) (r : Rcv) (lo : List ByteArray), k ≤ 60 ∧ i = .int .i64 k ∧ OrdM w wr p q (.slice ai li.length ci) vo (.slice an net.length cn) (.slice aa acks.length ca) c s r li lo net acks ∧ OrdE a0 s r li lo k) (fun _ i _ => 60 - (intOf i).toNat)
      case atStart => exact ⟨0, _, _, _, _, Nat.zero_le _, rfl, HM.out, HE.out⟩
      case round =>
        obtain ⟨k, c, s, r, lo, hk, rfl, hM, hE⟩ := hrel
        obtain ⟨ao, co, rfl, hno, hco, _⟩ := hM.ro.form
        clear HM HE
        have HM := Lib.hid hM
        have HE := Lib.hid hE
        clear hM hE
        by_cases hk60 : k < 60
        · have hki : (k : Int) < 60 := by omega
          obtain ⟨hln, nn, hnn64, hag, hI⟩ := HE.out.send
          have HI := Lib.hid hI
          have HAG := Lib.hid hag
          clear hI hag hln
          go_wp2_with fail
          refine (Send_any p _ s _ HM.out.snd).mono ?_; rintro e w3 ⟨v1, rfl, hv1, hr, hm⟩
          obtain ⟨c3, hM3⟩ : ∃ c3, OrdM w w3 p q _ _ _ _ c3 s.send r li lo net acks := ⟨_, HM.out.sndS hr hm 7⟩
          have HM3 := Lib.hid hM3
          clear hv1 hr hm hM3
          go_wp2_with fail
          refine (Again_any p _ s.send _ HM3.out.snd).mono ?_; rintro e w4 ⟨v2, rfl, hv2, hm⟩
          obtain ⟨s4, hs4⟩ : ∃ s4, s4 = s.send := ⟨_, rfl⟩
          rw [← hs4] at HM3 HI HAG hv2
          rw [HAG.out] at hv2
          obtain ⟨c4, hM4, hV⟩ : ∃ c4, OrdM w w4 p q _ _ _ _ c4 s4 r li lo net acks ∧ Row w4 (fun k => c4 k = 8) 36 2 v2 nn (Pkt.vals s4.again) := ⟨_, HM3.out.still hm 8, hv2.born c3 8⟩
          obtain ⟨a2, cc2, rfl, hn2, hcc2, _⟩ := hV.form
          have HM4 := Lib.hid hM4
          have HV4 := Lib.hid hV
          clear hM4 hV hv2 hm hs4 HM3 HM HE
          go_wp2_with fail
          go_loopw [10, 18] (fun vo i wr => ∃ (m : Nat) (c : Nat → Nat) (r : Rcv) (lo : List ByteArray), m ≤ nn ∧ i = .int .i64 m ∧ OrdM w wr p q (.slice ai li.length ci) vo (.slice an net.length cn) (.slice aa acks.length ca) c s4 r li lo net acks ∧ Row wr (fun k => c k = 8) 36 2 (.slice a2 nn cc2) nn (Pkt.vals s4.again) ∧ OrdI a0 s4 r li lo k nn m) (fun _ i _ => nn - (intOf i).toNat)
          case atStart => exact ⟨0, _, _, _, Nat.zero_le _, rfl, HM4.out, HV4.out, HI.out⟩
          case round =>
            obtain ⟨m, c, r, lo, hm, rfl, hM, hV, hI⟩ := hrel
            obtain ⟨ao, co, rfl, hno, hco, _⟩ := hM.ro.form
            clear HM4 HV4 HI
            have HM := Lib.hid hM
            have HV := Lib.hid hV
            have HI := Lib.hid hI
            clear hM hV hI
            by_cases hmn : m < nn
            · have hmi : (m : Int) < (nn : Int) := by omega
              obtain ⟨x, hx, hq0, hq1, ho1, ho2, hI2⟩ := HI.out.at_ hmn HM.out.rcv.1
              have HI2 := Lib.hid hI2
              obtain ⟨ix, hix⟩ : ∃ ix, ix = nn - 1 - m := ⟨_, rfl⟩
              obtain ⟨n1, hn1⟩ : ∃ n1, n1 = nn - 1 := ⟨_, rfl⟩
              have e1 : IntKind.i64.wrap ((nn : Int) - 1) = (n1 : Int) := by rw [IntWalk.i64_in _ (by omega)]; omega
              have e2 : IntKind.i64.wrap ((n1 : Int) - (m : Int)) = (ix : Int) := by rw [IntWalk.i64_in _ (by omega)]; omega
              have hixn : (ix : Int) < (nn : Int) := by omega
              rw [← hix] at hx
              obtain ⟨hlt2, hx2⟩ := List.getElem?_eq_some_iff.1 hx
              obtain ⟨ad9, cap9, e9, _, _, hcl⟩ := HV.out.form
              cases e9
              obtain ⟨g2, rfl, _, _, hcl⟩ := hcl (by omega)
              have x0 : wr.cell? ⟨g2, ix * 2, none⟩ = some (.int .u32 x.seq) := hcl _ _ (hx2 ▸ (vals_get s4.again ix hlt2).1)
              have x1 : wr.cell? ⟨g2, ix * 2 + 1, none⟩ = some (.string x.body) := hcl _ _ (hx2 ▸ (vals_get s4.again ix hlt2).2)
              clear hcl hx hx2 hlt2 hix hn1 hI2
              go_wp2_with fail
              have HQ : Hid (x.val = .agg #[.int .u32 x.seq, .string x.body]) := Lib.hid rfl
              rw [← HQ.out]
              refine (Take_any q _ r x _ HM.out.rcv hq0 hq1 (HM.out.col.lt (by decide))).mono ?_; rintro e w5 ⟨v1, rfl, hv1, hr, hm5⟩
              obtain ⟨r3, hr3⟩ : ∃ r3, r3 = (r.take x).2 := ⟨_, rfl⟩
              obtain ⟨o3, ho3⟩ : ∃ o3, o3 = (r.take x).1 := ⟨_, rfl⟩
              rw [← hr3] at hr HI2
              rw [← ho3] at HI2 hv1 ho1
              obtain ⟨c5, hM5, hV5⟩ : ∃ c5, OrdM w w5 p q _ _ _ _ c5 s4 r3 li lo net acks ∧ Row w5 (fun k => c5 k = 8) 36 2 _ nn (Pkt.vals s4.again) := ⟨_, HM.out.rcvS hr hm5 7, HV.out.away HM.out.col hm5 (by decide) (by decide) 7⟩
              have HM5 := Lib.hid hM5
              have HV5 := Lib.hid hV5
              have HR5 := Lib.hid hv1.reads
              clear hM5 hV5 hv1 hr hm5 hr3 ho3 HM HV x0 x1 e1 e2 hixn
              go_wp2_with (at_builtin; refine wpList_append_reads Try.elStr rfl (.tmp 170) (.tmp 180) rfl _ _ _ _ rfl HM5.out.ro _ o3.length (o3.map .string) rfl HR5.out (by simp) (strs_all _) (by omega) (by unfold maxLen; omega) ?_)
              intro v6 w6 hR hm6
              obtain ⟨a6, c6, rfl, hn6, hc6, _⟩ := hR.form
              obtain ⟨l3, hl3e⟩ : ∃ l3, l3 = lo ++ o3 := ⟨_, rfl⟩
              have hle : lo.length + o3.length = l3.length := by rw [hl3e]; simp
              rw [hle] at hR hn6 ⊢
              rw [← hl3e] at HI2
              obtain ⟨c7, hM7, hV7⟩ : ∃ c7, OrdM w w6 p q _ _ _ _ c7 s4 r3 li l3 net acks ∧ Row w6 (fun k => c7 k = 8) 36 2 _ nn (Pkt.vals s4.again) := ⟨_, HM5.out.outM (l' := l3) hR hm6 rfl (by rw [hl3e]; simp), HV5.out.away HM5.out.col hm6 (by decide) (by decide) 4⟩
              have HM7 := Lib.hid hM7
              have HV7 := Lib.hid hV7
              clear hR hm6 hle hl3e hM7 hV7 HM5 HV5 HR5
              go_wp2
              go_roundw
              case rel => exact ⟨m + 1, _, _, _, by omega, by go_num, HM7.out, HV7.out, HI2.out⟩
              case measure => simp [intOf]; omega
            · have hmi : ¬ (m : Int) < (nn : Int) := by omega
              obtain rfl : m = nn := by omega
              obtain ⟨hq0, hq1, hE2⟩ := HI.out.done
              have HE2 := Lib.hid hE2
              clear hE2
              go_wp2_with fail
              refine (Next_any q _ r _ HM.out.rcv).mono ?_; rintro e w' ⟨rfl, rfl⟩
              go_wp2_with fail
              refine (Ack_any p _ s4 r.next _ HM.out.snd hq0 hq1).mono ?_; rintro e w5 ⟨rfl, hr, hm5⟩
              have HM5 := Lib.hid (HM.out.sndM hr hm5)
              clear hr hm5
              go_wp2
              go_roundw
              case rel => exact ⟨k + 1, _, _, _, _, by omega, by go_num, HM5.out, HE2.out⟩
              case measure => simp [intOf]; omega
        · have hki : ¬ (k : Int) < 60 := by omega
          obtain rfl : k = 60 := by omega
          obtain ⟨hlo, hb0⟩ := HE.out.last
          subst hlo
          have HB0 := Lib.hid hb0
          clear hb0
          go_wp2_with fail
          refine (SameStr_any _ _ lo lo _ HM.out.ro.reads HM.out.ri.reads).mono ?_; rintro e w3 ⟨rfl, hm⟩
          have HM3 := Lib.hid (HM.out.still hm 9)
          clear hm
          simp only [decide_true]
          go_wp2_with fail
          refine (Open_any p _ s _ HM3.out.snd).mono ?_; rintro e w' ⟨rfl, rfl⟩
          rw [HB0.out]
          have HMM := Lib.hid HM3.out.col.mod
          go_wp2_with fail
          refine (lives28_any _).mono ?_; rintro e w4 ⟨rfl, hm⟩
          have HM4 := Lib.hid (HMM.out.trans hm fun _ f => f.elim)
          clear hm
          go_wp2
          go_ret
          exact ⟨rfl, HM4.out⟩
end Go.Proofs.Ytidkapanpieflaa
