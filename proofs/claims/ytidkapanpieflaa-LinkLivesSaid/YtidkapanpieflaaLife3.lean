/- A life of a link: a beat. -/
import Derived.Test.YtidkapanpieflaaLife2
import Derived.Test.YtidkapanpieflaaRegT
namespace Go.Proofs.Ytidkapanpieflaa
open Go.RowKit
set_option linter.unusedVariables false
set_option linter.unusedSimpArgs false
def Life.beat (L : Life) : List MsgV := L.msg 1 :: L.out.again.map L.body
theorem again_len {s : Snd} (h : s.Ok) : s.again.length ≤ 64 := by
  have h1 := h.s2
  have h2 := h.w1
  simp [Snd.again, Snd.pkts]
  omega
set_option maxRecDepth 100000 in
set_option maxHeartbeats 1000000 in
theorem beat_any (p : Nat) (f : Nat → Prop) (L : Life) (w : World) (h : LifeAt w p f L) :
    Calls Try.prog 74 #[.pointer (some ⟨p, 0, none⟩)] w fun e w' => ∃ v, e = .returned v ∧ Row w' (fun k => w.heap.size ≤ k) 65 7 v L.beat.length (MsgV.vals L.beat) ∧ Mod (fun _ => False) w w' := by
  have H := Lib.hid h
  obtain ⟨_, _, po, pi, fs, fr, hb, hs, _, _, _⟩ := h
  have hlen := again_len hs.1
  have c3 : w.cell? ⟨p, 3, none⟩ = some (.pointer (some ⟨po, 0, none⟩)) := cellOf hb 3
  have HS := Lib.hid hs
  have hpw := lt_of_block hb
  clear hb hs
  go_enter Try.func74, Try.ntmps74
  go_wp2
  have hS0 : w.drew.cell? ⟨p, 3, none⟩ = some (.pointer (some ⟨po, 0, none⟩)) := c3
  refine wp_region_T [] (.c 0 0 (.c 3 0 (.c 4 0 (.c 5 0 (.c 6 0 (.c 7 1 (.c 1 2 (.f 2 8 (.c 8 2 (.c 9 2 (.c 10 2 (.c 11 0 .n)))) (.f 2 9 (.c 9 2 (.c 10 2 (.c 11 0 .n))) (.c 2 2 (.c 10 2 (.c 11 0 .n)))))))))))) (fun w' : World => w'.cell? ⟨p, 3, none⟩ = some (.pointer (some ⟨po, 0, none⟩))) (by kernel_rfl) (by kernel_rfl) (fun d _ _ _ _ h => by cases d <;> exact h) ?_
  repeat (first | (refine T_take (v := ?_) rfl rfl ?_ ?_; rotate_left; (focus (intro w0; go_simp; try with_reducible rfl)); simp only [List.getElem_toArray, List.getElem_cons_succ, List.getElem_cons_zero, Act.put, List.setIfInBounds_toArray, List.set_cons_zero, List.set_cons_succ]) | (refine T_held (v := ?_) rfl rfl hS0 ?_ ?_; rotate_left; (focus (intro w0 hSw; (try dsimp only at hSw); go_split_ands; go_simp; try with_reducible rfl)); simp only [List.getElem_toArray, List.getElem_cons_succ, List.getElem_cons_zero, Act.put, List.setIfInBounds_toArray, List.set_cons_zero, List.set_cons_succ]))
  (refine T_do rfl rfl fun K hK => ?_; (try simp only [List.getElem_toArray, List.getElem_cons_succ, List.getElem_cons_zero]))
  go_simp
  refine (msg_any p f L 1 _ (H.out.drew)).mono ?_; rintro e w1 ⟨rfl, hm⟩
  have hS1 : w1.cell? ⟨p, 3, none⟩ = some (.pointer (some ⟨po, 0, none⟩)) := hm.cell (fun f => f) hS0
  refine hK _ _ hS1 ?_
  clear hK K hS0
  try simp only [List.getElem_toArray, List.getElem_cons_succ, List.getElem_cons_zero, Act.put, List.setIfInBounds_toArray, List.set_cons_zero, List.set_cons_succ]
  replace hm := Mod.ofDrew hm
  have HM1 := Lib.hid hm
  clear hm
  have HMC : Hid ((L.msg 1).cells = #[.int .i64 L.node, .bool L.up, .int .u32 L.epoch, .int .i64 1, .int .u32 L.inn.next, .int .u32 0, .string ⟨#[]⟩]) := Lib.hid rfl
  rw [HMC.out]
  (refine T_fork rfl rfl rfl rfl (fun K hK => ?_) (fun K hK => ?_) <;> (try simp only [List.getElem_toArray, List.getElem_cons_succ, List.getElem_cons_zero]))
  · go_simp
    refine hK _ _ (allocCell _ hS1) ?_
    clear hK K
    try simp only [List.getElem_toArray, List.getElem_cons_succ, List.getElem_cons_zero, Act.put, List.setIfInBounds_toArray, List.set_cons_zero, List.set_cons_succ]
    obtain ⟨qb, hqb⟩ : ∃ qb, qb = w1.heap.size := ⟨_, rfl⟩
    obtain ⟨w2, hwn⟩ : ∃ wn, wn = w1.alloc (.cells #[.int .i64 L.node, .bool L.up, .int .u32 L.epoch, .int .i64 1, .int .u32 L.inn.next, .int .u32 0, .string ⟨#[]⟩] 65) := ⟨_, rfl⟩
    rw [← hqb, ← hwn]
    have hmn : Mod (fun _ => False) w1 w2 := hwn ▸ (Mod.refl _ _).alloc _
    have hS2 : w2.cell? ⟨p, 3, none⟩ = some (.pointer (some ⟨po, 0, none⟩)) := hmn.cell (fun f => f) hS1
    have HQ : Hid (w2.heap[qb]? = some (.cells (L.msg 1).cells 65 (0, 0))) := Lib.hid (by rw [hwn, hqb]; exact allocNew w1 _)
    have hqw : w.heap.size ≤ qb := by rw [hqb]; exact HM1.out.size
    clear hwn hqb
    have HM2 := Lib.hid (HM1.out.trans hmn fun _ f => f.elim)
    clear hmn hS1
    (refine T_do rfl rfl fun K hK => ?_; (try simp only [List.getElem_toArray, List.getElem_cons_succ, List.getElem_cons_zero]))
    go_simp
    refine (Again_any po fs L.out _ (HS.out.keep HM2.out fun _ _ f => f)).mono ?_; rintro e w3 ⟨v2, rfl, hv2, hmn⟩
    refine hK _ _ (hmn.cell (fun f => f) hS2) ?_
    clear hK K
    try simp only [List.getElem_toArray, List.getElem_cons_succ, List.getElem_cons_zero, Act.put, List.setIfInBounds_toArray, List.set_cons_zero, List.set_cons_succ]
    have hS3 : w3.cell? ⟨p, 3, none⟩ = some (.pointer (some ⟨po, 0, none⟩)) := hmn.cell (fun f => f) hS2
    replace HQ := Lib.hid (hmn.keep HQ.out fun f => f)
    have HV2 := Lib.hid (hv2.mono (f' := fun k => w.heap.size ≤ k) fun k hk => Nat.le_trans HM2.out.size hk)
    clear hv2
    have HM3 := Lib.hid (HM2.out.trans hmn fun _ f => f.elim)
    clear hmn hS2
    (refine T_do rfl rfl fun K hK => ?_; (try simp only [List.getElem_toArray, List.getElem_cons_succ, List.getElem_cons_zero]))
    go_simp
    refine (bodies_any p f L v2 L.out.again _ (H.out.keep HM3.out fun _ _ f => f) HV2.out.reads (by omega)).mono ?_; rintro e w4 ⟨v3, rfl, hv3, hmn⟩
    refine hK _ _ (hmn.cell (fun f => f) hS3) ?_
    clear hK K
    try simp only [List.getElem_toArray, List.getElem_cons_succ, List.getElem_cons_zero, Act.put, List.setIfInBounds_toArray, List.set_cons_zero, List.set_cons_succ]
    have hS4 : w4.cell? ⟨p, 3, none⟩ = some (.pointer (some ⟨po, 0, none⟩)) := hmn.cell (fun f => f) hS3
    replace HQ := Lib.hid (hmn.keep HQ.out fun f => f)
    replace HV2 := Lib.hid (HV2.out.keep hmn fun _ _ f => f)
    have HV3 := Lib.hid (hv3.mono (f' := fun k => w.heap.size ≤ k) fun k hk => Nat.le_trans HM3.out.size hk)
    clear hv3
    have HM4 := Lib.hid (HM3.out.trans hmn fun _ f => f.elim)
    clear hmn hS3
    (refine T_do rfl rfl fun K hK => ?_; (try simp only [List.getElem_toArray, List.getElem_cons_succ, List.getElem_cons_zero]))
    refine wp_append_reads Try.elMsg (.tmp 5) (.tmp 12) rfl (fun k => w.heap.size ≤ k) (.slice (some ⟨qb, 0, none⟩) 1 1) 1 (L.msg 1).cells.toList rfl (Row.made HQ.out rfl (by unfold maxLen; omega) hqw) v3 _ _ rfl HV3.out.reads (by rw [MsgV.vals_len, List.length_map]) (MsgV.vals_all _) (by omega) (by unfold maxLen; omega) ?_
    intro v4 w9 hR hm9
    refine hK _ _ (hm9.cell (by show ¬ w.heap.size ≤ p; omega) hS4) ?_
    clear hK K hS4
    try simp only [List.getElem_toArray, List.getElem_cons_succ, List.getElem_cons_zero, Act.put, List.setIfInBounds_toArray, List.set_cons_zero, List.set_cons_succ]
    have HR9 := Lib.hid hR
    have HM9 : Hid (Mod (fun _ => False) w w9) := Lib.hid (HM4.out.trans hm9 fun k hk => .inr hk)
    have hsz := HM4.out.size
    clear hR hm9 HQ HV2 HV3
    repeat (first | (refine T_take (v := ?_) rfl rfl ?_ ?_; rotate_left; (focus (intro w0; go_simp; try with_reducible rfl)); simp only [List.getElem_toArray, List.getElem_cons_succ, List.getElem_cons_zero, Act.put, List.setIfInBounds_toArray, List.set_cons_zero, List.set_cons_succ]))
    refine T_nil ?_
    go_wp2
    go_returns
    refine ⟨_, rfl, ?_, HM9.out⟩
    have := HR9.out.mono (f' := fun k => w.heap.size ≤ k) fun k hk => hk.elim id fun h => Nat.le_trans hsz h
    simpa [Life.beat, MsgV.vals, Nat.add_comm] using this
  · go_simp
    refine (Again_any po fs L.out _ (HS.out.keep HM1.out fun _ _ f => f)).mono ?_; rintro e w2 ⟨v2, rfl, hv2, hmn⟩
    refine hK _ _ (hmn.cell (fun f => f) hS1) ?_
    clear hK K
    try simp only [List.getElem_toArray, List.getElem_cons_succ, List.getElem_cons_zero, Act.put, List.setIfInBounds_toArray, List.set_cons_zero, List.set_cons_succ]
    have hS2 : w2.cell? ⟨p, 3, none⟩ = some (.pointer (some ⟨po, 0, none⟩)) := hmn.cell (fun f => f) hS1
    have HV2 := Lib.hid (hv2.mono (f' := fun k => w.heap.size ≤ k) fun k hk => Nat.le_trans HM1.out.size hk)
    clear hv2
    have HM2 := Lib.hid (HM1.out.trans hmn fun _ f => f.elim)
    clear hmn hS1
    (refine T_fork rfl rfl rfl rfl (fun K hK => ?_) (fun K hK => ?_) <;> (try simp only [List.getElem_toArray, List.getElem_cons_succ, List.getElem_cons_zero]))
    · go_simp
      refine hK _ _ (allocCell _ hS2) ?_
      clear hK K
      try simp only [List.getElem_toArray, List.getElem_cons_succ, List.getElem_cons_zero, Act.put, List.setIfInBounds_toArray, List.set_cons_zero, List.set_cons_succ]
      obtain ⟨qb, hqb⟩ : ∃ qb, qb = w2.heap.size := ⟨_, rfl⟩
      obtain ⟨w3, hwn⟩ : ∃ wn, wn = w2.alloc (.cells #[.int .i64 L.node, .bool L.up, .int .u32 L.epoch, .int .i64 1, .int .u32 L.inn.next, .int .u32 0, .string ⟨#[]⟩] 65) := ⟨_, rfl⟩
      rw [← hqb, ← hwn]
      have hmn : Mod (fun _ => False) w2 w3 := hwn ▸ (Mod.refl _ _).alloc _
      have hS3 : w3.cell? ⟨p, 3, none⟩ = some (.pointer (some ⟨po, 0, none⟩)) := hmn.cell (fun f => f) hS2
      replace HV2 := Lib.hid (HV2.out.keep hmn fun _ _ f => f)
      have HQ : Hid (w3.heap[qb]? = some (.cells (L.msg 1).cells 65 (0, 0))) := Lib.hid (by rw [hwn, hqb]; exact allocNew w2 _)
      have hqw : w.heap.size ≤ qb := by rw [hqb]; exact HM2.out.size
      clear hwn hqb
      have HM3 := Lib.hid (HM2.out.trans hmn fun _ f => f.elim)
      clear hmn hS2
      (refine T_do rfl rfl fun K hK => ?_; (try simp only [List.getElem_toArray, List.getElem_cons_succ, List.getElem_cons_zero]))
      go_simp
      refine (bodies_any p f L v2 L.out.again _ (H.out.keep HM3.out fun _ _ f => f) HV2.out.reads (by omega)).mono ?_; rintro e w4 ⟨v3, rfl, hv3, hmn⟩
      refine hK _ _ (hmn.cell (fun f => f) hS3) ?_
      clear hK K
      try simp only [List.getElem_toArray, List.getElem_cons_succ, List.getElem_cons_zero, Act.put, List.setIfInBounds_toArray, List.set_cons_zero, List.set_cons_succ]
      have hS4 : w4.cell? ⟨p, 3, none⟩ = some (.pointer (some ⟨po, 0, none⟩)) := hmn.cell (fun f => f) hS3
      replace HQ := Lib.hid (hmn.keep HQ.out fun f => f)
      replace HV2 := Lib.hid (HV2.out.keep hmn fun _ _ f => f)
      have HV3 := Lib.hid (hv3.mono (f' := fun k => w.heap.size ≤ k) fun k hk => Nat.le_trans HM3.out.size hk)
      clear hv3
      have HM4 := Lib.hid (HM3.out.trans hmn fun _ f => f.elim)
      clear hmn hS3
      (refine T_do rfl rfl fun K hK => ?_; (try simp only [List.getElem_toArray, List.getElem_cons_succ, List.getElem_cons_zero]))
      refine wp_append_reads Try.elMsg (.tmp 5) (.tmp 12) rfl (fun k => w.heap.size ≤ k) (.slice (some ⟨qb, 0, none⟩) 1 1) 1 (L.msg 1).cells.toList rfl (Row.made HQ.out rfl (by unfold maxLen; omega) hqw) v3 _ _ rfl HV3.out.reads (by rw [MsgV.vals_len, List.length_map]) (MsgV.vals_all _) (by omega) (by unfold maxLen; omega) ?_
      intro v4 w9 hR hm9
      refine hK _ _ (hm9.cell (by show ¬ w.heap.size ≤ p; omega) hS4) ?_
      clear hK K hS4
      try simp only [List.getElem_toArray, List.getElem_cons_succ, List.getElem_cons_zero, Act.put, List.setIfInBounds_toArray, List.set_cons_zero, List.set_cons_succ]
      have HR9 := Lib.hid hR
      have HM9 : Hid (Mod (fun _ => False) w w9) := Lib.hid (HM4.out.trans hm9 fun k hk => .inr hk)
      have hsz := HM4.out.size
      clear hR hm9 HQ HV2 HV3
      repeat (first | (refine T_take (v := ?_) rfl rfl ?_ ?_; rotate_left; (focus (intro w0; go_simp; try with_reducible rfl)); simp only [List.getElem_toArray, List.getElem_cons_succ, List.getElem_cons_zero, Act.put, List.setIfInBounds_toArray, List.set_cons_zero, List.set_cons_succ]))
      refine T_nil ?_
      go_wp2
      go_returns
      refine ⟨_, rfl, ?_, HM9.out⟩
      have := HR9.out.mono (f' := fun k => w.heap.size ≤ k) fun k hk => hk.elim id fun h => Nat.le_trans hsz h
      simpa [Life.beat, MsgV.vals, Nat.add_comm] using this
    · go_simp
      refine (bodies_any p f L v2 L.out.again _ (H.out.keep HM2.out fun _ _ f => f) HV2.out.reads (by omega)).mono ?_; rintro e w3 ⟨v3, rfl, hv3, hmn⟩
      refine hK _ _ (hmn.cell (fun f => f) hS2) ?_
      clear hK K
      try simp only [List.getElem_toArray, List.getElem_cons_succ, List.getElem_cons_zero, Act.put, List.setIfInBounds_toArray, List.set_cons_zero, List.set_cons_succ]
      have hS3 : w3.cell? ⟨p, 3, none⟩ = some (.pointer (some ⟨po, 0, none⟩)) := hmn.cell (fun f => f) hS2
      replace HV2 := Lib.hid (HV2.out.keep hmn fun _ _ f => f)
      have HV3 := Lib.hid (hv3.mono (f' := fun k => w.heap.size ≤ k) fun k hk => Nat.le_trans HM2.out.size hk)
      clear hv3
      have HM3 := Lib.hid (HM2.out.trans hmn fun _ f => f.elim)
      clear hmn hS2
      (refine T_do rfl rfl fun K hK => ?_; (try simp only [List.getElem_toArray, List.getElem_cons_succ, List.getElem_cons_zero]))
      go_simp
      refine hK _ _ (allocCell _ hS3) ?_
      clear hK K
      try simp only [List.getElem_toArray, List.getElem_cons_succ, List.getElem_cons_zero, Act.put, List.setIfInBounds_toArray, List.set_cons_zero, List.set_cons_succ]
      obtain ⟨qb, hqb⟩ : ∃ qb, qb = w3.heap.size := ⟨_, rfl⟩
      obtain ⟨w4, hwn⟩ : ∃ wn, wn = w3.alloc (.cells #[.int .i64 L.node, .bool L.up, .int .u32 L.epoch, .int .i64 1, .int .u32 L.inn.next, .int .u32 0, .string ⟨#[]⟩] 65) := ⟨_, rfl⟩
      rw [← hqb, ← hwn]
      have hmn : Mod (fun _ => False) w3 w4 := hwn ▸ (Mod.refl _ _).alloc _
      have hS4 : w4.cell? ⟨p, 3, none⟩ = some (.pointer (some ⟨po, 0, none⟩)) := hmn.cell (fun f => f) hS3
      replace HV2 := Lib.hid (HV2.out.keep hmn fun _ _ f => f)
      replace HV3 := Lib.hid (HV3.out.keep hmn fun _ _ f => f)
      have HQ : Hid (w4.heap[qb]? = some (.cells (L.msg 1).cells 65 (0, 0))) := Lib.hid (by rw [hwn, hqb]; exact allocNew w3 _)
      have hqw : w.heap.size ≤ qb := by rw [hqb]; exact HM3.out.size
      clear hwn hqb
      have HM4 := Lib.hid (HM3.out.trans hmn fun _ f => f.elim)
      clear hmn hS3
      (refine T_do rfl rfl fun K hK => ?_; (try simp only [List.getElem_toArray, List.getElem_cons_succ, List.getElem_cons_zero]))
      refine wp_append_reads Try.elMsg (.tmp 5) (.tmp 12) rfl (fun k => w.heap.size ≤ k) (.slice (some ⟨qb, 0, none⟩) 1 1) 1 (L.msg 1).cells.toList rfl (Row.made HQ.out rfl (by unfold maxLen; omega) hqw) v3 _ _ rfl HV3.out.reads (by rw [MsgV.vals_len, List.length_map]) (MsgV.vals_all _) (by omega) (by unfold maxLen; omega) ?_
      intro v4 w9 hR hm9
      refine hK _ _ (hm9.cell (by show ¬ w.heap.size ≤ p; omega) hS4) ?_
      clear hK K hS4
      try simp only [List.getElem_toArray, List.getElem_cons_succ, List.getElem_cons_zero, Act.put, List.setIfInBounds_toArray, List.set_cons_zero, List.set_cons_succ]
      have HR9 := Lib.hid hR
      have HM9 : Hid (Mod (fun _ => False) w w9) := Lib.hid (HM4.out.trans hm9 fun k hk => .inr hk)
      have hsz := HM4.out.size
      clear hR hm9 HQ HV2 HV3
      repeat (first | (refine T_take (v := ?_) rfl rfl ?_ ?_; rotate_left; (focus (intro w0; go_simp; try with_reducible rfl)); simp only [List.getElem_toArray, List.getElem_cons_succ, List.getElem_cons_zero, Act.put, List.setIfInBounds_toArray, List.set_cons_zero, List.set_cons_succ]))
      refine T_nil ?_
      go_wp2
      go_returns
      refine ⟨_, rfl, ?_, HM9.out⟩
      have := HR9.out.mono (f' := fun k => w.heap.size ≤ k) fun k hk => hk.elim id fun h => Nat.le_trans hsz h
      simpa [Life.beat, MsgV.vals, Nat.add_comm] using this
end Go.Proofs.Ytidkapanpieflaa
