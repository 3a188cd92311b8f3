/- (*link.Hub).Beat: contract. -/
import Derived.Test.YtidkapanpieflaaHubS
namespace Go.Proofs.Ytidkapanpieflaa
open Go.RowKit
set_option linter.unusedVariables false
set_option linter.unusedSimpArgs false
def Life.hello (L : Life) : MsgV := L.msg 1
def Life.agains (L : Life) : List MsgV := L.out.again.map L.body
theorem Life.beat_eq (L : Life) : L.beat = L.hello :: L.agains := rfl
def beats (l : List Life) : List MsgV := l.map Life.hello ++ l.flatMap Life.agains
structure BeatI (w wr : World) (f : Nat → Prop) (hb : Nat) (l : List Life) (G : Int → Option Int) (km gm : Nat) (vbo : Int → Nat) (c : Clr) (nv a b : Value) (k : Nat) (ms : List MsgV) : Prop where
  hub : HubIn wr hb l G km gm vbo c
  bag : Bag w wr f c
  mod0 : Mod (fun _ => False) w wr
  nodes : Row wr (fun k => c k = .inr 3) 3 1 nv l.length ((l.map Life.node).map (Value.int .i64))
  ra : Row wr (fun k => c k = .inr 4) 65 7 a k (MsgV.vals ((l.take k).map Life.hello))
  rb : Row wr (fun k => c k = .inr 5) 65 7 b ms.length (MsgV.vals ms)
  len : ms.length ≤ 64 * k
  eq : ms = (l.take k).flatMap Life.agains
theorem BeatI.still {w wr w' : World} {f : Nat → Prop} {hb : Nat} {l : List Life} {G : Int → Option Int} {km gm : Nat} {vbo : Int → Nat} {c : Clr} {nv a b : Value} {k : Nat} {ms : List MsgV} (h : BeatI w wr f hb l G km gm vbo c nv a b k ms) (hm : Mod (fun _ => False) wr w') (t : Int ⊕ Nat) : BeatI w w' f hb l G km gm vbo (dyed c wr t) nv a b k ms :=
  ⟨h.hub.grow hm (fun _ _ f => f) t, h.bag.step hm (fun _ f => f.elim) t, h.mod0.trans hm fun _ f => f.elim, h.nodes.dyeKeep hm (fun _ _ f => f) t, h.ra.dyeKeep hm (fun _ _ f => f) t, h.rb.dyeKeep hm (fun _ _ f => f) t, h.len, h.eq⟩
theorem row_dyed {w w' : World} {c : Clr} {i : Int ⊕ Nat} {e : TypeId} {sz n : Nat} {v : Value} {xs : List Value} (h : Row w' (fun k => c k = i ∨ w.heap.size ≤ k) e sz v n xs) : Row w' (fun k => dyed c w i k = i) e sz v n xs :=
  h.monoLt fun k hk _ => by
    by_cases hl : w.heap.size ≤ k
    · exact dyed_new hl
    · rw [dyed_old (by omega)]
      rcases hk with hk | hk
      · exact hk
      · exact absurd hk hl
set_option maxRecDepth 100000 in
set_option maxHeartbeats 4000000 in
theorem HBeat_any {w : World} {f : Nat → Prop} {hb : Nat} {l : List Life} {G : Int → Option Int} (h : HubAt w f hb l G) (hl : l.length ≤ 1000) :
    Calls Try.prog 57 #[.pointer (some ⟨hb, 0, none⟩)] w fun e w' => ∃ v, e = .returned v ∧ Row w' (fun k => w.heap.size ≤ k) 65 7 v (beats l).length (MsgV.vals (beats l)) ∧ Mod (fun _ => False) w w' := by
  obtain ⟨km, gm, vbo, c, h, hbag⟩ := h.open
  have HN := Lib.hid (hnodes_any h hl)
  have HH := Lib.hid h
  have HB := Lib.hid hbag
  clear h hbag
  obtain ⟨mz, hmz⟩ : ∃ mz, mz = beats l := ⟨_, rfl⟩
  rw [← hmz]
  have HMZ := Lib.hid hmz
  clear hmz
  go_enter Try.func57, Try.ntmps57
  go_wp2_with fail
  refine HN.out.mono ?_; rintro e w1 ⟨nv, rfl, hr, hm⟩
  obtain ⟨ad, cap, rfl, hnc, hcm, _⟩ := hr.form
  have hI : BeatI w w1 f hb l G km gm vbo (dyed c w (.inr 3)) (.slice ad l.length cap) (.slice none 0 0) (.slice none 0 0) 0 [] := ⟨HH.out.grow hm (fun _ _ f => f) (.inr 3), HB.out.step hm (fun _ f => f.elim) _, hm, hr.mono fun k hk => dyed_new hk, Row.nil w1 _ _ _, Row.nil w1 _ _ _, by simp, by simp⟩
  obtain ⟨n, hnn⟩ : ∃ n, n = l.length := ⟨_, rfl⟩
  rw [← hnn] at hI hl hnc ⊢
  have HI0 := Lib.hid hI
  have HNN := Lib.hid hnn
  have hn63 : n ≤ 9223372036854775807 := by omega
  clear hr hm hI hnn HN HH HB
  go_wp2_with fail
  go_loopw [3, 4, 13] (fun a b i wr => ∃ k : Nat, k ≤ n ∧ i = .int .i64 k ∧ ∃ c ms, BeatI w wr f hb l G km gm vbo c (.slice ad n cap) a b k ms) (fun _ _ i _ => n - (intOf i).toNat)
  case atStart => exact ⟨0, Nat.zero_le _, rfl, _, _, HI0.out⟩
  case round =>
    obtain ⟨k, hk, rfl, c, ms, hI⟩ := hrel
    have HI := Lib.hid hI
    obtain ⟨aa, ac, rfl, _, _, _⟩ := hI.ra.form
    obtain ⟨ba, bc, rfl, _, _, _⟩ := hI.rb.form
    clear hI HI0
    by_cases hlt : k < n
    · have hki : (k : Int) < (n : Int) := by omega
      have hkl : k < l.length := by rw [← HNN.out]; exact hlt
      obtain ⟨L, hLk⟩ : ∃ L, L = l[k]'hkl := ⟨_, rfl⟩
      have htk : l.take (k + 1) = l.take k ++ [L] := by rw [List.take_add_one, List.getElem?_eq_getElem hkl, hLk]; rfl
      have hnd := HI.out.nodes
      rw [← HNN.out] at hnd
      obtain ⟨ad2, cap2, e1, _, _, hcell⟩ := hnd.form
      injection e1 with e2 e3 e4
      subst e2; subst e4
      obtain ⟨g, hge, hgc, hgl, hcc⟩ := hcell (by omega)
      subst hge
      have x0 : wr.cell? ⟨g, k, none⟩ = some (.int .i64 L.node) := hcc k _ (by simp [hLk, hkl])
      have hfi : hfind Life.node l L.node = some L := hfind_of HI.out.hub.asc (by rw [hLk]; exact List.getElem_mem hkl)
      obtain ⟨_, hLA⟩ := HI.out.hub.life hfi
      have c0 := HI.out.hub.top.cell (j := 0) rfl
      have hlk := HI.out.hub.lkYes hfi
      have HTK := Lib.hid htk
      have HLA := Lib.hid hLA
      clear hcc hnd hcell hLk hkl htk hfi hLA
      go_wp2_with fail
      refine (beat_any (vbo L.node) _ L _ HLA.out).mono ?_; rintro e w2 ⟨bv, rfl, hbv, hm2⟩
      obtain ⟨b2, cb, rfl, hbc, hbm, hbg⟩ := hbv.form
      have hbl : L.beat.length = 1 + L.agains.length := by rw [Life.beat_eq]; simp; omega
      obtain ⟨gb, rfl, _, _, hbcell⟩ := hbg (by omega)
      have hal : L.agains.length ≤ 64 := by
        obtain ⟨po, fs, _, hs, _⟩ := HLA.out.subS
        have := again_len hs.1
        simpa [Life.agains] using this
      have HI2 := Lib.hid (HI.out.still hm2 (.inr 6))
      have HBV := Lib.hid (show Row w2 (fun k => dyed c wr (.inr 6) k = .inr 6) _ _ _ _ _ from hbv.mono fun k hk => dyed_new hk)
      have hv0 : ∀ j u, (L.hello).cells[j]? = some u → w2.drew.cell? ⟨gb, j, none⟩ = some u := fun j u hu => hbcell j u (by
        rw [Life.beat_eq]
        have : MsgV.vals (L.hello :: L.agains) = L.hello.cells.toList ++ MsgV.vals L.agains := by simp [MsgV.vals]
        have hj : j < L.hello.cells.size := (Array.getElem?_eq_some_iff.1 hu).1
        rw [this, List.getElem?_append_left (by simpa using hj)]
        simpa using hu)
      have hS : w2.drew.cell? ⟨gb, 0, none⟩ = some (.int .i64 L.node) ∧ w2.drew.cell? ⟨gb, 1, none⟩ = some (.bool L.up) ∧ w2.drew.cell? ⟨gb, 2, none⟩ = some (.int .u32 L.epoch) ∧ w2.drew.cell? ⟨gb, 3, none⟩ = some (.int .i64 1) ∧ w2.drew.cell? ⟨gb, 4, none⟩ = some (.int .u32 L.inn.next) ∧ w2.drew.cell? ⟨gb, 5, none⟩ = some (.int .u32 0) ∧ w2.drew.cell? ⟨gb, 6, none⟩ = some (.string ⟨#[]⟩) := ⟨hv0 0 _ rfl, hv0 1 _ rfl, hv0 2 _ rfl, hv0 3 _ rfl, hv0 4 _ rfl, hv0 5 _ rfl, hv0 6 _ rfl⟩
      have hcg : (dyed c wr (.inr 6)) gb = .inr 6 := HBV.out.2 gb rfl
      generalize hc2 : dyed c wr (.inr 6) = c2 at HI2 HBV hcg
      have HCG := Lib.hid hcg
      obtain ⟨bl, hbl2⟩ : ∃ bl, bl = L.beat.length := ⟨_, rfl⟩
      rw [← hbl2] at hbl hbc HBV ⊢
      have hb0 : 0 < bl := by omega
      have hb1 : 1 ≤ bl := by omega
      have hbi : (0 : Int) < (bl : Int) := by omega
      obtain ⟨ad2, had2⟩ : ∃ ad2, (if cb = 1 then some (⟨gb, 0, none⟩ : Addr) else (some (⟨gb, 0, none⟩ : Addr)).map (·.add (1 * 7))) = ad2 := ⟨_, rfl⟩
      have HAD := Lib.hid had2
      have HBL := Lib.hid hbl2
      have HBE := Lib.hid hbl
      have hbl65 : bl ≤ 65 := by omega
      clear hm2 hbv hv0 hbcell hbg HLA HI hc2 hcg c0 hlk x0 had2 hbl2 hbl
      go_wp2_with fail
      refine wp_region_plan [4] [(0, 0), (1, 0), (2, 0), (3, 1), (6, 0), (7, 0), (8, 0), (4, 3), (5, 2), (9, 2), (10, 0), (11, 0)] (fun w' : World => w'.cell? ⟨gb, 0, none⟩ = some (.int .i64 L.node) ∧ w'.cell? ⟨gb, 1, none⟩ = some (.bool L.up) ∧ w'.cell? ⟨gb, 2, none⟩ = some (.int .u32 L.epoch) ∧ w'.cell? ⟨gb, 3, none⟩ = some (.int .i64 1) ∧ w'.cell? ⟨gb, 4, none⟩ = some (.int .u32 L.inn.next) ∧ w'.cell? ⟨gb, 5, none⟩ = some (.int .u32 0) ∧ w'.cell? ⟨gb, 6, none⟩ = some (.string ⟨#[]⟩)) (by kernel_rfl) (by kernel_rfl) (fun d _ _ _ _ h => by cases d <;> exact h) ?_
      repeat (first | (refine plan_skip rfl rfl ?_; simp only [List.getElem_toArray, List.getElem_cons_succ, List.getElem_cons_zero, Act.put, List.setIfInBounds_toArray, List.set_cons_zero, List.set_cons_succ]) | (refine plan_pass2 rfl rfl ?_; simp only [List.getElem_toArray, List.getElem_cons_succ, List.getElem_cons_zero, Act.put, List.setIfInBounds_toArray, List.set_cons_zero, List.set_cons_succ]) | (refine plan_pass3 rfl rfl ?_; simp only [List.getElem_toArray, List.getElem_cons_succ, List.getElem_cons_zero, Act.put, List.setIfInBounds_toArray, List.set_cons_zero, List.set_cons_succ]) | (refine plan_take (v := ?_) rfl rfl ?_ ?_; rotate_left; (focus (intro w0; go_simp; try with_reducible rfl)); simp only [List.getElem_toArray, List.getElem_cons_succ, List.getElem_cons_zero, Act.put, List.setIfInBounds_toArray, List.set_cons_zero, List.set_cons_succ]) | (refine plan_held (v := ?_) rfl rfl hS ?_ ?_; rotate_left; (focus (intro w0 hSw; (try dsimp only at hSw); go_split_ands; go_simp; try with_reducible rfl)); simp only [List.getElem_toArray, List.getElem_cons_succ, List.getElem_cons_zero, Act.put, List.setIfInBounds_toArray, List.set_cons_zero, List.set_cons_succ])  | (refine plan_skip1 rfl rfl hS ?_; simp only [List.getElem_toArray, List.getElem_cons_succ, List.getElem_cons_zero, Act.put, List.setIfInBounds_toArray, List.set_cons_zero, List.set_cons_succ]))
      (refine plan_take (v := .slice ad2 (bl - 1) (cb - 1)) rfl rfl (fun w0 => exec_slice_from (o := ⟨some 32, .slice 72 (.tmp 31) (some (.const (.int .i64 1))) none none, _, _, _, _⟩) Try.elMsg rfl rfl rfl hb1 hbc HAD.out w0) ?_; try simp only [List.getElem_toArray, List.getElem_cons_succ, List.getElem_cons_zero, Act.put, List.setIfInBounds_toArray, List.set_cons_zero, List.set_cons_succ])
      (refine plan_end rfl rfl rfl fun K hK => ?_; (try simp only [List.getElem_toArray, List.getElem_cons_succ, List.getElem_cons_zero]))
      go_simp
      have HHC : Hid (L.hello.cells = #[.int .i64 L.node, .bool L.up, .int .u32 L.epoch, .int .i64 1, .int .u32 L.inn.next, .int .u32 0, .string ⟨#[]⟩]) := Lib.hid rfl
      rw [← HHC.out]
      refine hK _ _ ?_
      clear hK K
      try simp only [List.getElem_toArray, List.getElem_cons_succ, List.getElem_cons_zero, Act.put, List.setIfInBounds_toArray, List.set_cons_zero, List.set_cons_succ]
      obtain ⟨qb, hqb⟩ : ∃ qb, qb = w2.heap.size := ⟨_, rfl⟩
      obtain ⟨w3, hwn⟩ : ∃ wn, wn = (w2.alloc (.cells L.hello.cells 65)).drew := ⟨_, rfl⟩
      have hm3 : Mod (fun _ => False) w2 w3 := hwn ▸ ((Mod.refl _ _).alloc _).drew
      have hrq : Row w3 (fun k => w2.heap.size ≤ k) 65 7 (.slice (some ⟨w2.heap.size, 0, none⟩) 1 1) 1 L.hello.cells.toList := hwn ▸ Row.made (cur := L.hello.cells) (sz := 7) (n := 1) (allocNew w2 (.cells L.hello.cells 65)) rfl (by unfold maxLen; omega) (Nat.le_refl _)
      rw [← hwn, ← hqb]
      rw [← hqb] at hrq
      have HQ := Lib.hid hrq.reads
      have hgb2 : gb < w2.heap.size := World.block_lt_of_cell? w2.drew _ hS.1
      have hS3 : w3.cell? ⟨gb, 0, none⟩ = some (.int .i64 L.node) ∧ w3.cell? ⟨gb, 1, none⟩ = some (.bool L.up) ∧ w3.cell? ⟨gb, 2, none⟩ = some (.int .u32 L.epoch) ∧ w3.cell? ⟨gb, 3, none⟩ = some (.int .i64 1) ∧ w3.cell? ⟨gb, 4, none⟩ = some (.int .u32 L.inn.next) ∧ w3.cell? ⟨gb, 5, none⟩ = some (.int .u32 0) ∧ w3.cell? ⟨gb, 6, none⟩ = some (.string ⟨#[]⟩) := ⟨hm3.cell (fun f => f) hS.1, hm3.cell (fun f => f) hS.2.1, hm3.cell (fun f => f) hS.2.2.1, hm3.cell (fun f => f) hS.2.2.2.1, hm3.cell (fun f => f) hS.2.2.2.2.1, hm3.cell (fun f => f) hS.2.2.2.2.2.1, hm3.cell (fun f => f) hS.2.2.2.2.2.2⟩
      have HI3 := Lib.hid (HI2.out.still hm3 (.inr 7))
      have HBV3 := Lib.hid (HBV.out.dyeKeep hm3 (fun _ _ f => f) (.inr 7))
      have hcg3 : dyed c2 w2 (.inr 7) gb = .inr 6 := by rw [dyed_old hgb2]; exact HCG.out
      generalize hc3 : dyed c2 w2 (.inr 7) = c3 at HI3 HBV3 hcg3
      have HCG3 := Lib.hid hcg3
      have hlen := HI3.out.len
      clear hS hrq hwn hqb hm3 HI2 HBV HCG hcg3 hc3 hgb2
      (refine plan_do rfl rfl fun K hK => ?_; try simp only [List.getElem_toArray, List.getElem_cons_succ, List.getElem_cons_zero])
      refine wp_append_reads Try.elMsg (.tmp 24) (.tmp 28) rfl (fun k => c3 k = .inr 4) _ k _ rfl HI3.out.ra (.slice (some ⟨qb, 0, none⟩) 1 1) 1 L.hello.cells.toList rfl HQ.out rfl (by rw [HHC.out]; simp [Value.oneCell']) (by omega) (by unfold maxLen; omega) ?_
      intro v4 w4 hR hm4
      have hn4 : ¬ c3 gb = .inr 4 := fun e => by rw [HCG3.out] at e; cases e
      have hS4 : w4.cell? ⟨gb, 0, none⟩ = some (.int .i64 L.node) ∧ w4.cell? ⟨gb, 1, none⟩ = some (.bool L.up) ∧ w4.cell? ⟨gb, 2, none⟩ = some (.int .u32 L.epoch) ∧ w4.cell? ⟨gb, 3, none⟩ = some (.int .i64 1) ∧ w4.cell? ⟨gb, 4, none⟩ = some (.int .u32 L.inn.next) ∧ w4.cell? ⟨gb, 5, none⟩ = some (.int .u32 0) ∧ w4.cell? ⟨gb, 6, none⟩ = some (.string ⟨#[]⟩) := ⟨hm4.cell hn4 hS3.1, hm4.cell hn4 hS3.2.1, hm4.cell hn4 hS3.2.2.1, hm4.cell hn4 hS3.2.2.2.1, hm4.cell hn4 hS3.2.2.2.2.1, hm4.cell hn4 hS3.2.2.2.2.2.1, hm4.cell hn4 hS3.2.2.2.2.2.2⟩
      refine hK _ _ hS4 ?_
      clear hK K
      try simp only [List.getElem_toArray, List.getElem_cons_succ, List.getElem_cons_zero, Act.put, List.setIfInBounds_toArray, List.set_cons_zero, List.set_cons_succ]
      have hgb3 : gb < w3.heap.size := World.block_lt_of_cell? w3 _ hS3.1
      have HH4 := Lib.hid (HI3.out.hub.grow hm4 (fun k hk => hub_ne (by decide) hk) (.inr 4))
      have HB4 := Lib.hid (HI3.out.bag.step hm4 (fun k hk => inr_ne (by decide) hk) (.inr 4))
      have HM4 := Lib.hid (HI3.out.mod0.trans hm4 fun k hk => .inr (HI3.out.bag.cl k 4 hk (by decide) (by decide)))
      have HN4 := Lib.hid (HI3.out.nodes.dyeKeep hm4 (fun k hk => inr_ne (by decide) hk) (.inr 4))
      have HRA4 := Lib.hid (row_dyed hR)
      have HRB4 := Lib.hid (HI3.out.rb.dyeKeep hm4 (fun k hk => inr_ne (by decide) hk) (.inr 4))
      have HBV4 := Lib.hid (HBV3.out.dyeKeep hm4 (fun k hk => inr_ne (by decide) hk) (.inr 4))
      have hcg4 : dyed c3 w3 (.inr 4) gb = .inr 6 := by rw [dyed_old hgb3]; exact HCG3.out
      have HEQ := Lib.hid HI3.out.eq
      generalize hc4 : dyed c3 w3 (.inr 4) = c4 at HH4 HB4 HN4 HRA4 HRB4 HBV4 hcg4
      have HCG4 := Lib.hid hcg4
      have hrd : Reads w4 (.slice ad2 (bl - 1) (cb - 1)) L.agains.length (MsgV.vals L.agains) := by
        obtain ⟨a7, c7, e7, _, _, h7⟩ := HBV4.out.form
        injection e7 with e8 e9 e10
        refine ⟨ad2, cb - 1, by rw [show bl - 1 = L.agains.length by have := HBE.out; omega], by have := HBE.out; omega, by have := hbm; omega, fun hp => ?_⟩
        obtain ⟨g7, e11, _, _, h8⟩ := h7 hb0
        subst e8
        injection e11 with e12
        injection e12 with e13
        subst e13
        have hcb : ¬ cb = 1 := by have := HBE.out; omega
        refine ⟨gb, 7, ?_, fun i u hu => h8 (7 + i) u ?_⟩
        · rw [← HAD.out, if_neg hcb]; rfl
        · rw [Life.beat_eq]
          have : MsgV.vals (L.hello :: L.agains) = L.hello.cells.toList ++ MsgV.vals L.agains := by simp [MsgV.vals]
          rw [this, List.getElem?_append_right (by simp [HHC.out])]
          simpa [HHC.out] using hu
      have HRD := Lib.hid hrd
      clear hS3 hR hm4 hn4 hgb3 HI3 HBV3 HCG3 hcg4 hc4 hrd HQ
      obtain ⟨a4, cp4, rfl, _, _, _⟩ := HRA4.out.form
      repeat (first | (refine plan_skip rfl rfl ?_; simp only [List.getElem_toArray, List.getElem_cons_succ, List.getElem_cons_zero, Act.put, List.setIfInBounds_toArray, List.set_cons_zero, List.set_cons_succ]) | (refine plan_pass2 rfl rfl ?_; simp only [List.getElem_toArray, List.getElem_cons_succ, List.getElem_cons_zero, Act.put, List.setIfInBounds_toArray, List.set_cons_zero, List.set_cons_succ]) | (refine plan_pass3 rfl rfl ?_; simp only [List.getElem_toArray, List.getElem_cons_succ, List.getElem_cons_zero, Act.put, List.setIfInBounds_toArray, List.set_cons_zero, List.set_cons_succ]) | (refine plan_take (v := ?_) rfl rfl ?_ ?_; rotate_left; (focus (intro w0; go_simp; try with_reducible rfl)); simp only [List.getElem_toArray, List.getElem_cons_succ, List.getElem_cons_zero, Act.put, List.setIfInBounds_toArray, List.set_cons_zero, List.set_cons_succ]) | (refine plan_held (v := ?_) rfl rfl hS4 ?_ ?_; rotate_left; (focus (intro w0 hSw; (try dsimp only at hSw); go_split_ands; go_simp; try with_reducible rfl)); simp only [List.getElem_toArray, List.getElem_cons_succ, List.getElem_cons_zero, Act.put, List.setIfInBounds_toArray, List.set_cons_zero, List.set_cons_succ])  | (refine plan_skip1 rfl rfl hS4 ?_; simp only [List.getElem_toArray, List.getElem_cons_succ, List.getElem_cons_zero, Act.put, List.setIfInBounds_toArray, List.set_cons_zero, List.set_cons_succ]))
      (refine plan_do rfl rfl fun K hK => ?_; try simp only [List.getElem_toArray, List.getElem_cons_succ, List.getElem_cons_zero])
      refine wp_append_reads Try.elMsg (.tmp 30) (.tmp 32) rfl (fun k => c4 k = .inr 5) _ ms.length _ rfl HRB4.out (.slice ad2 (bl - 1) (cb - 1)) L.agains.length (MsgV.vals L.agains) rfl HRD.out (by rw [MsgV.vals_len]) (MsgV.vals_all _) (by omega) (by unfold maxLen; omega) ?_
      intro v5 w5 hR hm5
      have hn5 : ¬ c4 gb = .inr 5 := fun e => by rw [HCG4.out] at e; cases e
      refine hK _ _ ⟨hm5.cell hn5 hS4.1, hm5.cell hn5 hS4.2.1, hm5.cell hn5 hS4.2.2.1, hm5.cell hn5 hS4.2.2.2.1, hm5.cell hn5 hS4.2.2.2.2.1, hm5.cell hn5 hS4.2.2.2.2.2.1, hm5.cell hn5 hS4.2.2.2.2.2.2⟩ ?_
      clear hK K hS4
      try simp only [List.getElem_toArray, List.getElem_cons_succ, List.getElem_cons_zero, Act.put, List.setIfInBounds_toArray, List.set_cons_zero, List.set_cons_succ]
      have hI5 : BeatI w w5 f hb l G km gm vbo (dyed c4 w4 (.inr 5)) (.slice (some ⟨g, 0, none⟩) n cap) (.slice a4 (k + 1) cp4) v5 (k + 1) (ms ++ L.agains) := ⟨HH4.out.grow hm5 (fun k hk => hub_ne (by decide) hk) (.inr 5), HB4.out.step hm5 (fun k hk => inr_ne (by decide) hk) (.inr 5), HM4.out.trans hm5 fun k hk => .inr (HB4.out.cl k 5 hk (by decide) (by decide)), HN4.out.dyeKeep hm5 (fun k hk => inr_ne (by decide) hk) (.inr 5), (by
        have := HRA4.out.dyeKeep hm5 (fun k hk => inr_ne (by decide) hk) (.inr 5)
        rw [HTK.out, List.map_append, MsgV.vals_app]
        simpa [MsgV.vals] using this), (by rw [MsgV.vals_app, List.length_append]; exact row_dyed hR), (by rw [List.length_append]; omega), (by rw [HEQ.out, HTK.out, List.flatMap_append]; simp)⟩
      obtain ⟨a5, cp5, rfl, _, _, _⟩ := hR.form
      have HI5 := Lib.hid hI5
      clear hR hm5 hI5 HH4 HB4 HM4 HN4 HRA4 HRB4 HBV4 HCG4 HRD
      repeat (first | (refine plan_skip rfl rfl ?_; simp only [List.getElem_toArray, List.getElem_cons_succ, List.getElem_cons_zero, Act.put, List.setIfInBounds_toArray, List.set_cons_zero, List.set_cons_succ]) | (refine plan_pass2 rfl rfl ?_; simp only [List.getElem_toArray, List.getElem_cons_succ, List.getElem_cons_zero, Act.put, List.setIfInBounds_toArray, List.set_cons_zero, List.set_cons_succ]) | (refine plan_pass3 rfl rfl ?_; simp only [List.getElem_toArray, List.getElem_cons_succ, List.getElem_cons_zero, Act.put, List.setIfInBounds_toArray, List.set_cons_zero, List.set_cons_succ]) | (refine plan_take (v := ?_) rfl rfl ?_ ?_; rotate_left; (focus (intro w0; go_simp; try with_reducible rfl)); simp only [List.getElem_toArray, List.getElem_cons_succ, List.getElem_cons_zero, Act.put, List.setIfInBounds_toArray, List.set_cons_zero, List.set_cons_succ]) | fail )
      refine plan_nil ?_
      go_wp2
      go_roundw
      case rel => exact ⟨k + 1, by omega, by go_num, _, _, HI5.out⟩
      case measure => simp [intOf]; omega
    · have hki : ¬ (k : Int) < (n : Int) := by omega
      have hkn : k = n := by omega
      have e1 : l.take k = l := by rw [hkn, HNN.out]; exact List.take_length
      have hra := HI.out.ra
      have hrb := HI.out.rb
      have hlen := HI.out.len
      have hkl : k = (l.map Life.hello).length := by rw [hkn, HNN.out]; simp
      have HMS : Hid (l.map Life.hello ++ ms = mz ∧ mz.length = k + ms.length) := Lib.hid (by
        have e2 : l.map Life.hello ++ ms = mz := by rw [HMZ.out, HI.out.eq, e1]; rfl
        exact ⟨e2, by rw [← e2, List.length_append, ← hkl]⟩)
      rw [e1] at hra
      have HRA := Lib.hid hra
      have HRB := Lib.hid hrb
      clear hra hrb e1 hkl hkn
      go_wp2_with (at_builtin; go_loud (refine wpList_append_reads Try.elMsg rfl (.tmp 35) (.tmp 36) rfl (fun k => c k = .inr 4) _ k _ rfl HRA.out (.slice ba ms.length bc) ms.length (MsgV.vals ms) rfl HRB.out.reads (by rw [MsgV.vals_len]) (MsgV.vals_all _) (by omega) (by unfold maxLen; omega) ?_); intro v5 w5 hR5 hm5)
      go_ret
      refine ⟨_, rfl, ?_, HI.out.mod0.trans hm5 fun k hk => .inr (HI.out.bag.cl k 4 hk (by decide) (by decide))⟩
      rw [HMS.out.2, ← HMS.out.1, MsgV.vals_app]
      have hs := HI.out.mod0.size
      exact hR5.mono fun k hk => by
        rcases hk with hk | hk
        · exact HI.out.bag.cl k 4 hk (by decide) (by decide)
        · exact Nat.le_trans hs hk
end Go.Proofs.Ytidkapanpieflaa
