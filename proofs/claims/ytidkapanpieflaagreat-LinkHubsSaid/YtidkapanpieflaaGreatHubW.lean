/- The reference's hub: Send: contract. -/
import Derived.Test.YtidkapanpieflaaGreatHubY
namespace Go.Proofs.YtidkapanpieflaaGreat
open Go.RowKit
set_option linter.unusedVariables false
set_option linter.unusedSimpArgs false
def RLife.sent (X : RLife) : RLife := { X with s := X.s.send }
def RLife.sends (X : RLife) : List MsgV := X.s.news.map X.body
structure XSendI (w wr : World) (f : Nat → Prop) (xb : Nat) (l : List RLife) (gs : List (Int × Int)) (lv gv : Value) (pbo : Int → Nat) (c : Clr) (out : Value) (k : Nat) (ms : List MsgV) : Prop where
  hub : XIn wr xb ((l.take k).map RLife.sent ++ l.drop k) gs lv gv pbo c
  bag : Bag w wr f c
  out : Row wr (fun k => c k = .inr 4) 32 7 out ms.length (MsgV.vals ms)
  len : ms.length ≤ 64 * k
  eq : ms = (l.take k).flatMap RLife.sends
theorem news_len {w : World} {p : Nat} {f : Nat → Prop} {s : RefS} (h : RefSAt w p f s) : s.news.length ≤ 64 := by
  have h1 := h.1
  have := h1.s2; have := h1.w1; have := h1.s1; have := h1.d1
  simp [RefS.news, RefS.pkts, RefS.bound]; omega
theorem sent_len (l : List RLife) (k : Nat) : ((l.take k).map RLife.sent ++ l.drop k).length = l.length := by simp; omega
set_option maxRecDepth 100000 in
set_option maxHeartbeats 4000000 in
theorem XSend_any {w : World} {f : Nat → Prop} {xb : Nat} {l : List RLife} {gs : List (Int × Int)} (h : XAt w f xb l gs) (hl : l.length ≤ 1000) :
    Calls Tryz.prog 10 #[.pointer (some ⟨xb, 0, none⟩)] w fun e w' => ∃ v, e = .returned v ∧ Row w' (fun k => w.heap.size ≤ k) 32 7 v (l.flatMap RLife.sends).length (MsgV.vals (l.flatMap RLife.sends)) ∧ XAt w' (fun k => f k ∨ w.heap.size ≤ k) xb (l.map RLife.sent) gs ∧ Mod f w w' := by
  obtain ⟨lv, gv, pbo, c, h, hbag⟩ := h.open
  obtain ⟨ad, cap, hlv, hnc, hcm, _, _⟩ := h.form
  subst hlv
  obtain ⟨mz, hmz⟩ : ∃ mz, mz = l.flatMap RLife.sends := ⟨_, rfl⟩
  rw [← hmz]
  have HMZ := Lib.hid hmz
  have hm0 : Mod (fun _ => False) w (w.alloc (.cells #[] 32)) := (Mod.refl _ _).alloc _
  have hI : XSendI w (w.alloc (.cells #[] 32)) f xb l gs (.slice ad l.length cap) gv pbo (dyed c w (.inr 4)) (.slice (some ⟨w.heap.size, 0, none⟩) 0 0) 0 [] := ⟨by simpa using h.grow hm0 (fun _ _ f => f) (.inr 4), hbag.step hm0 (fun _ f => f.elim) _, (by
    have := Row.made (f := fun k => w.heap.size ≤ k) (cur := #[]) (sz := 7) (n := 0) (allocNew w (.cells #[] 32)) rfl (by unfold maxLen; omega) (Nat.le_refl _)
    exact this.mono fun k hk => dyed_new hk), by simp, by simp⟩
  obtain ⟨n, hnn⟩ : ∃ n, n = l.length := ⟨_, rfl⟩
  rw [← hnn] at hI hl hnc
  have HI0 := Lib.hid hI
  have HNN := Lib.hid hnn
  have hn63 : n ≤ 9223372036854775807 := by omega
  clear hmz hI hnn h hbag hm0
  go_enter Tryz.func10, Tryz.ntmps10
  go_wp2_with fail
  go_loopw [3, 4] (fun out i wr => ∃ k : Nat, k ≤ n ∧ i = .int .i64 (k : Int) ∧ ∃ c ms, XSendI w wr f xb l gs (.slice ad n cap) gv pbo c out k ms) (fun _ i _ => n - (intOf i).toNat)
  case atStart => exact ⟨0, Nat.zero_le _, rfl, _, _, HI0.out⟩
  case round =>
    obtain ⟨k, hk, rfl, c, ms, hI⟩ := hrel
    have HI := Lib.hid hI
    obtain ⟨oa, oc, rfl, _, _, _⟩ := hI.out.form
    obtain ⟨ad2, cap2, e1, _, _, c0, hg⟩ := hI.hub.form
    rw [sent_len, ← HNN.out] at e1 hg
    injection e1 with e2 e3 e4
    subst e2; subst e4
    have HG := Lib.hid hg
    clear hI HI0 hg
    by_cases hlt : k < n
    · have hki : (k : Int) < (n : Int) := by omega
      have hkl : k < l.length := by rw [← HNN.out]; exact hlt
      obtain ⟨X, hXk⟩ : ∃ X, X = l[k]'hkl := ⟨_, rfl⟩
      have hdk : l.drop k = X :: l.drop (k + 1) := by rw [hXk]; exact List.drop_eq_getElem_cons hkl
      have htk : l.take (k + 1) = l.take k ++ [X] := by rw [List.take_add_one, List.getElem?_eq_getElem hkl, hXk]; rfl
      have hat : ((l.take k).map RLife.sent ++ l.drop k)[k]? = some X := by
        rw [List.getElem?_append_right (by simp; omega)]
        simp [hXk, hkl, Nat.min_eq_left (Nat.le_of_lt hkl)]
      obtain ⟨g, hge, hgc, hgl, hcc⟩ := HG.out (by omega)
      subst hge
      have x0 := hcc k X hat
      have hfi : hfind RLife.node ((l.take k).map RLife.sent ++ l.drop k) X.node = some X := hfind_of HI.out.hub.asc (List.mem_of_getElem? hat)
      obtain ⟨_, hLA⟩ := HI.out.hub.life hfi
      obtain ⟨po, fs, d2, d3, hs, hnp, hfs, hset⟩ := hLA.sub
      have hnl := news_len hs
      have hfp : c (pbo X.node) = .inl X.node := hLA.2.1.1
      have hS : wr.drew.cell? ⟨xb, 0, none⟩ = some (.slice (some ⟨g, 0, none⟩) n cap) ∧ wr.drew.cell? ⟨g, k, none⟩ = some (.pointer (some ⟨pbo X.node, 0, none⟩)) ∧ wr.drew.cell? ⟨pbo X.node, 3, none⟩ = some (.pointer (some ⟨po, 0, none⟩)) := ⟨c0, x0, d3⟩
      have HS : Hid (RefSAt wr.drew po fs X.s) := Lib.hid hs
      have HFI := Lib.hid hfi
      have HSET := Lib.hid hset
      have HFS := Lib.hid hfs
      have HNP := Lib.hid hnp
      have HDK := Lib.hid hdk
      have HTK := Lib.hid htk
      have HFP := Lib.hid hfp
      have HGC := Lib.hid hgc
      clear hcc hXk hkl hdk htk hfi hLA d2 d3 hs hset hfs hnp hfp hgc hat x0
      go_wp2_with fail
      refine wp_region_plan [] [(0, 0), (1, 0), (2, 0), (3, 0), (4, 1), (5, 0), (6, 0), (7, 1), (8, 0), (9, 0), (10, 0), (11, 1), (12, 0), (13, 0), (14, 1), (15, 0), (16, 0), (17, 1), (18, 2), (19, 2), (20, 2), (21, 0)] (fun w' : World => w'.cell? ⟨xb, 0, none⟩ = some (.slice (some ⟨g, 0, none⟩) n cap) ∧ w'.cell? ⟨g, k, none⟩ = some (.pointer (some ⟨pbo X.node, 0, none⟩)) ∧ w'.cell? ⟨pbo X.node, 3, none⟩ = some (.pointer (some ⟨po, 0, none⟩))) (by kernel_rfl) (by kernel_rfl) (fun d _ _ _ _ h => by cases d <;> exact h) ?_
      repeat (first | (refine plan_skip rfl rfl ?_; simp only [List.getElem_toArray, List.getElem_cons_succ, List.getElem_cons_zero, Act.put, List.setIfInBounds_toArray, List.set_cons_zero, List.set_cons_succ]) | (refine plan_pass2 rfl rfl ?_; simp only [List.getElem_toArray, List.getElem_cons_succ, List.getElem_cons_zero, Act.put, List.setIfInBounds_toArray, List.set_cons_zero, List.set_cons_succ]) | (refine plan_pass3 rfl rfl ?_; simp only [List.getElem_toArray, List.getElem_cons_succ, List.getElem_cons_zero, Act.put, List.setIfInBounds_toArray, List.set_cons_zero, List.set_cons_succ]) | (refine plan_take (v := ?_) rfl rfl ?_ ?_; rotate_left; (focus (intro w0; go_simp; try with_reducible rfl)); simp only [List.getElem_toArray, List.getElem_cons_succ, List.getElem_cons_zero, Act.put, List.setIfInBounds_toArray, List.set_cons_zero, List.set_cons_succ]) | (refine plan_held (v := ?_) rfl rfl hS ?_ ?_; rotate_left; (focus (intro w0 hSw; (try dsimp only at hSw); go_split_ands; go_simp; try with_reducible rfl)); simp only [List.getElem_toArray, List.getElem_cons_succ, List.getElem_cons_zero, Act.put, List.setIfInBounds_toArray, List.set_cons_zero, List.set_cons_succ])  | (refine plan_skip1 rfl rfl hS ?_; simp only [List.getElem_toArray, List.getElem_cons_succ, List.getElem_cons_zero, Act.put, List.setIfInBounds_toArray, List.set_cons_zero, List.set_cons_succ]))
      (refine plan_do rfl rfl fun K hK => ?_; try simp only [List.getElem_toArray, List.getElem_cons_succ, List.getElem_cons_zero])
      go_simp
      refine (RefSend_any po fs X.s _ HS.out).mono ?_; rintro e w2 ⟨v1, rfl, hv1, hs2, hm2⟩
      have hm2' := Mod.ofDrew hm2
      have hS2 : w2.cell? ⟨xb, 0, none⟩ = some (.slice (some ⟨g, 0, none⟩) n cap) ∧ w2.cell? ⟨g, k, none⟩ = some (.pointer (some ⟨pbo X.node, 0, none⟩)) ∧ w2.cell? ⟨pbo X.node, 3, none⟩ = some (.pointer (some ⟨po, 0, none⟩)) := ⟨hm2.cell (fun e => inl_ne (HFS.out _ e) HI.out.hub.f0) hS.1, hm2.cell (fun e => inl_ne (HFS.out _ e) HGC.out) hS.2.1, hm2.cell HNP.out hS.2.2⟩
      refine hK _ _ hS2 ?_
      clear hK K hS
      try simp only [List.getElem_toArray, List.getElem_cons_succ, List.getElem_cons_zero, Act.put, List.setIfInBounds_toArray, List.set_cons_zero, List.set_cons_succ]
      obtain ⟨hl2, hmc⟩ := HSET.out w2 _ X.s.send (fun k h => .inl h) hs2 hm2'
      have hput : hput RLife.node ((l.take k).map RLife.sent ++ l.drop k) X.sent = (l.take (k + 1)).map RLife.sent ++ l.drop (k + 1) := by
        have ha := HI.out.hub.asc
        rw [HDK.out] at ha ⊢
        rw [hput_mid ha (show RLife.node X.sent = RLife.node X from rfl), HTK.out]
        simp
      have hH2 := HI.out.hub.set HFI.out (L' := X.sent) rfl hl2 hmc
      rw [hput] at hH2
      have HH2 := Lib.hid hH2
      have HB2 := Lib.hid (HI.out.bag.step hmc (fun k hk => inl_ne hk) (.inl X.node))
      have HO2 := Lib.hid (HI.out.out.dyeKeep hmc (fun k hk => fun e => inl_ne e hk) (.inl X.node))
      have HL2 := Lib.hid hl2
      have HV2 := Lib.hid hv1.reads
      clear hv1 hs2 hm2 hm2' hl2 hput hH2 hmc HSET HS HNP HFS
      repeat (first | (refine plan_skip rfl rfl ?_; simp only [List.getElem_toArray, List.getElem_cons_succ, List.getElem_cons_zero, Act.put, List.setIfInBounds_toArray, List.set_cons_zero, List.set_cons_succ]) | (refine plan_pass2 rfl rfl ?_; simp only [List.getElem_toArray, List.getElem_cons_succ, List.getElem_cons_zero, Act.put, List.setIfInBounds_toArray, List.set_cons_zero, List.set_cons_succ]) | (refine plan_pass3 rfl rfl ?_; simp only [List.getElem_toArray, List.getElem_cons_succ, List.getElem_cons_zero, Act.put, List.setIfInBounds_toArray, List.set_cons_zero, List.set_cons_succ]) | (refine plan_take (v := ?_) rfl rfl ?_ ?_; rotate_left; (focus (intro w0; go_simp; try with_reducible rfl)); simp only [List.getElem_toArray, List.getElem_cons_succ, List.getElem_cons_zero, Act.put, List.setIfInBounds_toArray, List.set_cons_zero, List.set_cons_succ]) | (refine plan_held (v := ?_) rfl rfl hS2 ?_ ?_; rotate_left; (focus (intro w0 hSw; (try dsimp only at hSw); go_split_ands; go_simp; try with_reducible rfl)); simp only [List.getElem_toArray, List.getElem_cons_succ, List.getElem_cons_zero, Act.put, List.setIfInBounds_toArray, List.set_cons_zero, List.set_cons_succ])  | (refine plan_skip1 rfl rfl hS2 ?_; simp only [List.getElem_toArray, List.getElem_cons_succ, List.getElem_cons_zero, Act.put, List.setIfInBounds_toArray, List.set_cons_zero, List.set_cons_succ]))
      (refine plan_do rfl rfl fun K hK => ?_; try simp only [List.getElem_toArray, List.getElem_cons_succ, List.getElem_cons_zero])
      go_simp
      refine (RBodies_any (pbo X.node) _ X.sent v1 X.s.news _ HL2.out HV2.out (by omega)).mono ?_; rintro e w3 ⟨v2, rfl, hv2, hm3⟩
      refine hK _ _ ⟨hm3.cell (fun f => f) hS2.1, hm3.cell (fun f => f) hS2.2.1, hm3.cell (fun f => f) hS2.2.2⟩ ?_
      clear hK K
      try simp only [List.getElem_toArray, List.getElem_cons_succ, List.getElem_cons_zero, Act.put, List.setIfInBounds_toArray, List.set_cons_zero, List.set_cons_succ]
      have hS3 : w3.cell? ⟨xb, 0, none⟩ = some (.slice (some ⟨g, 0, none⟩) n cap) ∧ w3.cell? ⟨g, k, none⟩ = some (.pointer (some ⟨pbo X.node, 0, none⟩)) ∧ w3.cell? ⟨pbo X.node, 3, none⟩ = some (.pointer (some ⟨po, 0, none⟩)) := ⟨hm3.cell (fun f => f) hS2.1, hm3.cell (fun f => f) hS2.2.1, hm3.cell (fun f => f) hS2.2.2⟩
      have HH3 := Lib.hid (HH2.out.grow hm3 (fun _ _ f => f) (.inr 9))
      have HB3 := Lib.hid (HB2.out.step hm3 (fun _ f => f.elim) (.inr 9))
      have HO3 := Lib.hid (HO2.out.dyeKeep hm3 (fun _ _ f => f) (.inr 9))
      have hsd : X.s.news.map X.sent.body = X.sends := rfl
      rw [hsd] at hv2
      have HV3 := Lib.hid hv2.reads
      have hlen := HI.out.len
      have hp2 : pbo X.node < w2.heap.size := World.block_lt_of_cell? w2 _ hS2.2.2
      have hg2 : g < w2.heap.size := World.block_lt_of_cell? w2 _ hS2.2.1
      have HFP2 : Hid (dyed (dyed c wr (.inl X.node)) w2 (.inr 9) (pbo X.node) ≠ .inr 4 ∧ dyed (dyed c wr (.inl X.node)) w2 (.inr 9) g ≠ .inr 4) := Lib.hid (by
        rw [dyed_old hp2, dyed_old hg2]
        constructor
        · by_cases hlw : wr.heap.size ≤ pbo X.node
          · rw [dyed_new hlw]; simp
          · rw [dyed_old (by omega), HFP.out]; simp
        · by_cases hlw : wr.heap.size ≤ g
          · rw [dyed_new hlw]; simp
          · rw [dyed_old (by omega), HGC.out]; simp)
      clear hv2 hm3 HH2 HB2 HO2 HL2 HV2 hS2 hsd hp2 hg2
      generalize hc3 : dyed (dyed c wr (.inl X.node)) w2 (.inr 9) = c3 at HH3 HB3 HO3 HFP2
      clear hc3
      (refine plan_do rfl rfl fun K hK => ?_; try simp only [List.getElem_toArray, List.getElem_cons_succ, List.getElem_cons_zero])
      refine wp_append_reads Tryz.elMsg (.tmp 15) (.tmp 34) rfl (fun k => c3 k = .inr 4) _ ms.length (MsgV.vals ms) rfl HO3.out v2 X.s.news.length (MsgV.vals X.sends) rfl HV3.out (by rw [MsgV.vals_len]; simp [RLife.sends]) (MsgV.vals_all _) (by omega) (by unfold maxLen; omega) ?_
      intro v4 w4 hR hm4
      refine hK _ _ ⟨hm4.cell (fun e => inr_ne (by decide) HH3.out.f0 e) hS3.1, hm4.cell HFP2.out.2 hS3.2.1, hm4.cell HFP2.out.1 hS3.2.2⟩ ?_
      clear hK K hS3
      try simp only [List.getElem_toArray, List.getElem_cons_succ, List.getElem_cons_zero, Act.put, List.setIfInBounds_toArray, List.set_cons_zero, List.set_cons_succ]
      have hI4 : XSendI w w4 f xb l gs (.slice (some ⟨g, 0, none⟩) n cap) gv pbo (dyed c3 w3 (.inr 4)) v4 (k + 1) (ms ++ X.sends) := ⟨HH3.out.grow hm4 (fun k hk => hub_ne (by decide) hk) (.inr 4), HB3.out.step hm4 (fun k hk => inr_ne (by decide) hk) (.inr 4), (by
        rw [MsgV.vals_app, List.length_append, show X.sends.length = X.s.news.length by simp [RLife.sends]]
        exact hR.monoLt fun k hk _ => by
          by_cases hlw : w3.heap.size ≤ k
          · exact dyed_new hlw
          · rw [dyed_old (by omega)]
            rcases hk with hk | hk
            · exact hk
            · exact absurd hk hlw), (by rw [List.length_append, show X.sends.length = X.s.news.length by simp [RLife.sends]]; omega), (by rw [HI.out.eq, HTK.out, List.flatMap_append]; simp)⟩
      obtain ⟨a4, cp4, rfl, _, _, _⟩ := hR.form
      have HI4 := Lib.hid hI4
      clear hR hm4 hI4 HH3 HB3 HO3 HV3
      repeat (first | (refine plan_skip rfl rfl ?_; simp only [List.getElem_toArray, List.getElem_cons_succ, List.getElem_cons_zero, Act.put, List.setIfInBounds_toArray, List.set_cons_zero, List.set_cons_succ]) | (refine plan_pass2 rfl rfl ?_; simp only [List.getElem_toArray, List.getElem_cons_succ, List.getElem_cons_zero, Act.put, List.setIfInBounds_toArray, List.set_cons_zero, List.set_cons_succ]) | (refine plan_pass3 rfl rfl ?_; simp only [List.getElem_toArray, List.getElem_cons_succ, List.getElem_cons_zero, Act.put, List.setIfInBounds_toArray, List.set_cons_zero, List.set_cons_succ]) | (refine plan_take (v := ?_) rfl rfl ?_ ?_; rotate_left; (focus (intro w0; go_simp; try with_reducible rfl)); simp only [List.getElem_toArray, List.getElem_cons_succ, List.getElem_cons_zero, Act.put, List.setIfInBounds_toArray, List.set_cons_zero, List.set_cons_succ]) | fail )
      refine plan_nil ?_
      go_wp2
      go_roundw
      case rel => exact ⟨k + 1, by omega, by go_num, _, _, HI4.out⟩
      case measure => simp [intOf]; omega
    · have hki : ¬ (k : Int) < (n : Int) := by omega
      have hkn : k = n := by omega
      go_wp2
      go_ret
      obtain ⟨h1, h2⟩ := HI.out.hub.shut HI.out.bag
      have e1 : l.take k = l := by rw [hkn, HNN.out]; exact List.take_length
      have e2 : l.drop k = [] := by rw [hkn, HNN.out]; exact List.drop_length
      rw [e1, e2, List.append_nil] at h1
      have hms : ms = mz := by rw [HI.out.eq, e1, HMZ.out]
      have ho := HI.out.out
      rw [← hms]
      exact ⟨_, rfl, ho.mono fun k hk => HI.out.bag.cl k 4 hk (by decide) (by decide), h1, h2⟩
end Go.Proofs.YtidkapanpieflaaGreat
