/- LinkHubs: the walk. (Printed by gen_hubs.py.) -/
import Derived.Test.YtidkapanpieflaaGreatHubW
import Derived.Test.YtidkapanpieflaaGreatHubT
import Derived.Test.YtidkapanpieflaaGreatLinkMem
import Derived.Test.YtidkapanpieflaaGreatSame
import Derived.Test.YtidkapanpieflaaGreatHubZ
import Derived.Test.YtidkapanpieflaaGreatRunA
import Derived.ProofKit
import Derived.Test.YtidkapanpieflaaGreatRows
import Derived.KernelRfl
import Derived.Deep.CutBlock
namespace Go.Proofs.YtidkapanpieflaaGreat
open Go.RowKit
set_option linter.unusedVariables false
set_option linter.unusedSimpArgs false
def RLife.hello (X : RLife) : MsgV := X.msg 1
def RLife.agains (X : RLife) : List MsgV := X.s.again.map X.body
def xbeats (l : List RLife) : List MsgV := l.map RLife.hello ++ l.flatMap RLife.agains
structure XBeatI (w wr : World) (f : Nat → Prop) (xb : Nat) (l : List RLife) (gs : List (Int × Int)) (lv gv : Value) (pbo : Int → Nat) (c : Clr) (a b : Value) (k : Nat) (ms : List MsgV) : Prop where
  hub : XIn wr xb l gs lv gv pbo c
  bag : Bag w wr f c
  mod0 : Mod (fun _ => False) w wr
  ra : Row wr (fun k => c k = .inr 4) 32 7 a k (MsgV.vals ((l.take k).map RLife.hello))
  rb : Row wr (fun k => c k = .inr 5) 32 7 b ms.length (MsgV.vals ms)
  len : ms.length ≤ 64 * k
  eq : ms = (l.take k).flatMap RLife.agains
theorem XBeatI.still {w wr w' : World} {f : Nat → Prop} {xb : Nat} {l : List RLife} {gs : List (Int × Int)} {lv gv : Value} {pbo : Int → Nat} {c : Clr} {a b : Value} {k : Nat} {ms : List MsgV} (h : XBeatI w wr f xb l gs lv gv pbo c a b k ms) (hm : Mod (fun _ => False) wr w') (t : Int ⊕ Nat) : XBeatI w w' f xb l gs lv gv pbo (dyed c wr t) a b k ms :=
  ⟨h.hub.grow hm (fun _ _ f => f) t, h.bag.step hm (fun _ f => f.elim) t, h.mod0.trans hm fun _ f => f.elim, h.ra.dyeKeep hm (fun _ _ f => f) t, h.rb.dyeKeep hm (fun _ _ f => f) t, h.len, h.eq⟩
theorem again_len2 {w : World} {p : Nat} {f : Nat → Prop} {s : RefS} (h : RefSAt w p f s) : s.again.length ≤ 64 := by
  have h1 := h.1
  have := h1.s2; have := h1.w1; have := h1.s1; have := h1.d1
  simp [RefS.again, RefS.pkts]; omega
set_option maxRecDepth 100000 in
set_option maxHeartbeats 4000000 in
theorem XBeat_any {w : World} {f : Nat → Prop} {xb : Nat} {l : List RLife} {gs : List (Int × Int)} (h : XAt w f xb l gs) (hl : l.length ≤ 1000) :
    Calls Tryz.prog 12 #[.pointer (some ⟨xb, 0, none⟩)] w fun e w' => ∃ v, e = .returned v ∧ Row w' (fun k => w.heap.size ≤ k) 32 7 v (xbeats l).length (MsgV.vals (xbeats l)) ∧ Mod (fun _ => False) w w' := by
  obtain ⟨lv, gv, pbo, c, h, hbag⟩ := h.open
  obtain ⟨ad, cap, hlv, hnc, hcm, _, _⟩ := h.form
  subst hlv
  obtain ⟨mz, hmz⟩ : ∃ mz, mz = xbeats l := ⟨_, rfl⟩
  rw [← hmz]
  have HMZ := Lib.hid hmz
  obtain ⟨wA, hwA⟩ : ∃ wA, wA = w.alloc (.cells #[] 32) := ⟨_, rfl⟩
  obtain ⟨wB, hwB⟩ : ∃ wB, wB = wA.alloc (.cells #[] 32) := ⟨_, rfl⟩
  have hm0 : Mod (fun _ => False) w wA := hwA ▸ (Mod.refl _ _).alloc _
  have hm1 : Mod (fun _ => False) wA wB := hwB ▸ (Mod.refl _ _).alloc _
  have hsA : wA.heap.size = w.heap.size + 1 := by rw [hwA]; simp
  have hI : XBeatI w wB f xb l gs (.slice ad l.length cap) gv pbo (dyed (dyed c w (.inr 4)) wA (.inr 5)) (.slice (some ⟨w.heap.size, 0, none⟩) 0 0) (.slice (some ⟨wA.heap.size, 0, none⟩) 0 0) 0 [] := ⟨(h.grow hm0 (fun _ _ f => f) (.inr 4)).grow hm1 (fun _ _ f => f) (.inr 5), (hbag.step hm0 (fun _ f => f.elim) (.inr 4)).step hm1 (fun _ f => f.elim) (.inr 5), hm0.trans hm1 fun _ f => f.elim, (by
    have := Row.made (f := fun k => w.heap.size ≤ k) (cur := #[]) (sz := 7) (n := 0) (g := w.heap.size) (w := wA) (hwA ▸ allocNew w (.cells #[] 32)) rfl (by unfold maxLen; omega) (Nat.le_refl _)
    exact (show Row wA (fun k => dyed c w (.inr 4) k = .inr 4) _ _ _ _ _ from this.mono fun k hk => dyed_new hk).dyeKeep hm1 (fun _ _ f => f) _), (by
    have := Row.made (f := fun k => wA.heap.size ≤ k) (cur := #[]) (sz := 7) (n := 0) (g := wA.heap.size) (w := wB) (hwB ▸ allocNew wA (.cells #[] 32)) rfl (by unfold maxLen; omega) (Nat.le_refl _)
    exact this.mono fun k hk => dyed_new hk), by simp, by simp⟩
  rw [hwB, hwA] at hI
  rw [show (w.alloc (.cells #[] 32)).heap.size = w.heap.size + 1 by simp] at hI
  obtain ⟨n, hnn⟩ : ∃ n, n = l.length := ⟨_, rfl⟩
  rw [← hnn] at hI hl hnc
  have HI0 := Lib.hid hI
  have HNN := Lib.hid hnn
  have hn63 : n ≤ 9223372036854775807 := by omega
  clear hmz hI hnn h hbag hm0 hm1 hwA hwB hsA
  go_enter Tryz.func12, Tryz.ntmps12
  go_wp2_with fail
  go_loopw [3, 4, 5] (fun a b i wr => ∃ k : Nat, k ≤ n ∧ i = .int .i64 (k : Int) ∧ ∃ c ms, XBeatI w wr f xb l gs (.slice ad n cap) gv pbo c a b k ms) (fun _ _ i _ => n - (intOf i).toNat)
  case atStart => exact ⟨0, Nat.zero_le _, rfl, _, _, HI0.out⟩
  case round =>
    obtain ⟨k, hk, rfl, c, ms, hI⟩ := hrel
    have HI := Lib.hid hI
    obtain ⟨aa, ac, rfl, _, _, _⟩ := hI.ra.form
    obtain ⟨ba, bc, rfl, _, _, _⟩ := hI.rb.form
    obtain ⟨ad2, cap2, e1, _, _, c0, hg⟩ := hI.hub.form
    rw [← HNN.out] at e1 hg
    injection e1 with e2 e3 e4
    subst e2; subst e4
    have HG := Lib.hid hg
    clear hI HI0 hg
    by_cases hlt : k < n
    · have hki : (k : Int) < (n : Int) := by omega
      have hkl : k < l.length := by rw [← HNN.out]; exact hlt
      obtain ⟨X, hXk⟩ : ∃ X, X = l[k]'hkl := ⟨_, rfl⟩
      have htk : l.take (k + 1) = l.take k ++ [X] := by rw [List.take_add_one, List.getElem?_eq_getElem hkl, hXk]; rfl
      have hat : l[k]? = some X := by rw [hXk]; exact List.getElem?_eq_getElem hkl
      obtain ⟨g, hge, hgc, hgl, hcc⟩ := HG.out (by omega)
      subst hge
      have x0 := hcc k X hat
      have hfi : hfind RLife.node l X.node = some X := hfind_of HI.out.hub.asc (List.mem_of_getElem? hat)
      obtain ⟨_, hLA⟩ := HI.out.hub.life hfi
      obtain ⟨po, fs, d2, d3, hs, hnp, hfs, hset⟩ := hLA.sub
      have hnl := again_len2 hs
      have hfp : c (pbo X.node) = .inl X.node := hLA.2.1.1
      have hS : wr.drew.cell? ⟨xb, 0, none⟩ = some (.slice (some ⟨g, 0, none⟩) n cap) ∧ wr.drew.cell? ⟨g, k, none⟩ = some (.pointer (some ⟨pbo X.node, 0, none⟩)) ∧ wr.drew.cell? ⟨pbo X.node, 3, none⟩ = some (.pointer (some ⟨po, 0, none⟩)) := ⟨c0, x0, d3⟩
      have HLA : Hid (RLifeAt wr.drew (pbo X.node) (fun k => c k = .inl X.node) X) := Lib.hid hLA.drew
      have HTK := Lib.hid htk
      have HFS := Lib.hid hfs
      have HFP := Lib.hid hfp
      have HGC := Lib.hid hgc
      have HS := Lib.hid hs
      have HFI := Lib.hid hfi
      clear hcc hXk hkl htk hfi hLA d2 d3 hs hset hfs hnp hfp hgc hat x0
      go_wp2_with fail
      refine wp_region_plan [] [(0, 0), (1, 0), (2, 0), (3, 0), (4, 1), (5, 0), (6, 0), (7, 1), (10, 0), (11, 0), (12, 0), (13, 0), (14, 1), (15, 0), (16, 0), (17, 1), (18, 0), (19, 0), (20, 0), (21, 1), (22, 0), (23, 0), (24, 1), (25, 0), (26, 0), (27, 1), (8, 2), (9, 2), (28, 2), (29, 2), (30, 2), (31, 0), (32, 0)] (fun w' : World => w'.cell? ⟨xb, 0, none⟩ = some (.slice (some ⟨g, 0, none⟩) n cap) ∧ w'.cell? ⟨g, k, none⟩ = some (.pointer (some ⟨pbo X.node, 0, none⟩)) ∧ w'.cell? ⟨pbo X.node, 3, none⟩ = some (.pointer (some ⟨po, 0, none⟩))) (by kernel_rfl) (by kernel_rfl) (fun d _ _ _ _ h => by cases d <;> exact h) ?_
      repeat (first | (refine plan_skip rfl rfl ?_; simp only [List.getElem_toArray, List.getElem_cons_succ, List.getElem_cons_zero, Act.put, List.setIfInBounds_toArray, List.set_cons_zero, List.set_cons_succ]) | (refine plan_pass2 rfl rfl ?_; simp only [List.getElem_toArray, List.getElem_cons_succ, List.getElem_cons_zero, Act.put, List.setIfInBounds_toArray, List.set_cons_zero, List.set_cons_succ]) | (refine plan_pass3 rfl rfl ?_; simp only [List.getElem_toArray, List.getElem_cons_succ, List.getElem_cons_zero, Act.put, List.setIfInBounds_toArray, List.set_cons_zero, List.set_cons_succ]) | (refine plan_take (v := ?_) rfl rfl ?_ ?_; rotate_left; (focus (intro w0; go_simp; try with_reducible rfl)); simp only [List.getElem_toArray, List.getElem_cons_succ, List.getElem_cons_zero, Act.put, List.setIfInBounds_toArray, List.set_cons_zero, List.set_cons_succ]) | (refine plan_held (v := ?_) rfl rfl hS ?_ ?_; rotate_left; (focus (intro w0 hSw; (try dsimp only at hSw); go_split_ands; go_simp; try with_reducible rfl)); simp only [List.getElem_toArray, List.getElem_cons_succ, List.getElem_cons_zero, Act.put, List.setIfInBounds_toArray, List.set_cons_zero, List.set_cons_succ])  | (refine plan_skip1 rfl rfl hS ?_; simp only [List.getElem_toArray, List.getElem_cons_succ, List.getElem_cons_zero, Act.put, List.setIfInBounds_toArray, List.set_cons_zero, List.set_cons_succ]))
      (refine plan_do rfl rfl fun K hK => ?_; try simp only [List.getElem_toArray, List.getElem_cons_succ, List.getElem_cons_zero])
      go_simp
      refine (RHello_any (pbo X.node) _ X _ HLA.out).mono ?_; rintro e w2 ⟨v1, rfl, hv1, hm2⟩
      have hm2' := Mod.ofDrew hm2
      have hS2 : w2.cell? ⟨xb, 0, none⟩ = some (.slice (some ⟨g, 0, none⟩) n cap) ∧ w2.cell? ⟨g, k, none⟩ = some (.pointer (some ⟨pbo X.node, 0, none⟩)) ∧ w2.cell? ⟨pbo X.node, 3, none⟩ = some (.pointer (some ⟨po, 0, none⟩)) := ⟨hm2.cell (fun f => f) hS.1, hm2.cell (fun f => f) hS.2.1, hm2.cell (fun f => f) hS.2.2⟩
      refine hK _ _ hS2 ?_
      clear hK K hS
      try simp only [List.getElem_toArray, List.getElem_cons_succ, List.getElem_cons_zero, Act.put, List.setIfInBounds_toArray, List.set_cons_zero, List.set_cons_succ]
      have HI2 := Lib.hid (HI.out.still hm2' (.inr 6))
      have HV1 := Lib.hid hv1.reads
      have HS2 := Lib.hid (HS.out.keep hm2' fun _ _ f => f)
      have hgl2 : g < wr.heap.size := hgl
      have hpl2 : pbo X.node < wr.heap.size := HLA.out.2.1.2
      have hcg : dyed c wr (.inr 6) g = .inr 1 ∧ dyed c wr (.inr 6) (pbo X.node) = .inl X.node := by
        rw [dyed_old hgl2, dyed_old hpl2]; exact ⟨HGC.out, HFP.out⟩
      have hfs4 : ∀ q, fs q → dyed c wr (.inr 6) q ≠ .inr 4 := fun q hq => by
        by_cases hlw : wr.heap.size ≤ q
        · rw [dyed_new hlw]; simp
        · rw [dyed_old (by omega), HFS.out q hq]; simp
      generalize hc2 : dyed c wr (.inr 6) = c2 at HI2 hcg hfs4
      have HFS4 := Lib.hid hfs4
      have HCG := Lib.hid hcg
      have hlen := HI2.out.len
      clear hc2 hfs4 hcg hm2 hm2' hv1 hgl2 HI HGC HFP HS hpl2
      repeat (first | (refine plan_skip rfl rfl ?_; simp only [List.getElem_toArray, List.getElem_cons_succ, List.getElem_cons_zero, Act.put, List.setIfInBounds_toArray, List.set_cons_zero, List.set_cons_succ]) | (refine plan_pass2 rfl rfl ?_; simp only [List.getElem_toArray, List.getElem_cons_succ, List.getElem_cons_zero, Act.put, List.setIfInBounds_toArray, List.set_cons_zero, List.set_cons_succ]) | (refine plan_pass3 rfl rfl ?_; simp only [List.getElem_toArray, List.getElem_cons_succ, List.getElem_cons_zero, Act.put, List.setIfInBounds_toArray, List.set_cons_zero, List.set_cons_succ]) | (refine plan_take (v := ?_) rfl rfl ?_ ?_; rotate_left; (focus (intro w0; go_simp; try with_reducible rfl)); simp only [List.getElem_toArray, List.getElem_cons_succ, List.getElem_cons_zero, Act.put, List.setIfInBounds_toArray, List.set_cons_zero, List.set_cons_succ]) | (refine plan_held (v := ?_) rfl rfl hS2 ?_ ?_; rotate_left; (focus (intro w0 hSw; (try dsimp only at hSw); go_split_ands; go_simp; try with_reducible rfl)); simp only [List.getElem_toArray, List.getElem_cons_succ, List.getElem_cons_zero, Act.put, List.setIfInBounds_toArray, List.set_cons_zero, List.set_cons_succ])  | (refine plan_skip1 rfl rfl hS2 ?_; simp only [List.getElem_toArray, List.getElem_cons_succ, List.getElem_cons_zero, Act.put, List.setIfInBounds_toArray, List.set_cons_zero, List.set_cons_succ]))
      (refine plan_do rfl rfl fun K hK => ?_; try simp only [List.getElem_toArray, List.getElem_cons_succ, List.getElem_cons_zero])
      refine wp_append_reads Tryz.elMsg (.tmp 17) (.tmp 25) rfl (fun k => c2 k = .inr 4) _ k _ rfl HI2.out.ra v1 1 (MsgV.vals [X.hello]) rfl HV1.out (by rw [MsgV.vals_len]; rfl) (MsgV.vals_all _) (by omega) (by unfold maxLen; omega) ?_
      intro v4 w4 hR hm4
      have hn4g : ¬ c2 g = .inr 4 := fun e => by rw [HCG.out.1] at e; cases e
      have hn4p : ¬ c2 (pbo X.node) = .inr 4 := fun e => by rw [HCG.out.2] at e; cases e
      have hS4 : w4.cell? ⟨xb, 0, none⟩ = some (.slice (some ⟨g, 0, none⟩) n cap) ∧ w4.cell? ⟨g, k, none⟩ = some (.pointer (some ⟨pbo X.node, 0, none⟩)) ∧ w4.cell? ⟨pbo X.node, 3, none⟩ = some (.pointer (some ⟨po, 0, none⟩)) := ⟨hm4.cell (fun e => inr_ne (by decide) HI2.out.hub.f0 e) hS2.1, hm4.cell hn4g hS2.2.1, hm4.cell hn4p hS2.2.2⟩
      refine hK _ _ hS4 ?_
      clear hK K
      try simp only [List.getElem_toArray, List.getElem_cons_succ, List.getElem_cons_zero, Act.put, List.setIfInBounds_toArray, List.set_cons_zero, List.set_cons_succ]
      have hgl4 : g < w2.heap.size := World.block_lt_of_cell? w2 _ hS2.2.1
      have hpl4 : pbo X.node < w2.heap.size := World.block_lt_of_cell? w2 _ hS2.2.2
      have HH4 := Lib.hid (HI2.out.hub.grow hm4 (fun k hk => hub_ne (by decide) hk) (.inr 4))
      have HB4 := Lib.hid (HI2.out.bag.step hm4 (fun k hk => inr_ne (by decide) hk) (.inr 4))
      have HM4 := Lib.hid (HI2.out.mod0.trans hm4 fun k hk => .inr (HI2.out.bag.cl k 4 hk (by decide) (by decide)))
      have HRA4 := Lib.hid (row_dyed hR)
      have HRB4 := Lib.hid (HI2.out.rb.dyeKeep hm4 (fun k hk => inr_ne (by decide) hk) (.inr 4))
      have HS4 := Lib.hid (HS2.out.keep hm4 fun q hq => HFS4.out q hq)
      have HEQ := Lib.hid HI2.out.eq
      have hcg4 : dyed c2 w2 (.inr 4) g = .inr 1 ∧ dyed c2 w2 (.inr 4) (pbo X.node) = .inl X.node := by
        rw [dyed_old hgl4, dyed_old hpl4]; exact HCG.out
      generalize hc4 : dyed c2 w2 (.inr 4) = c4 at HH4 HB4 HRA4 HRB4 hcg4
      have HCG4 := Lib.hid hcg4
      obtain ⟨a4, cp4, rfl, _, _, _⟩ := hR.form
      clear hS2 hR hm4 hn4g hn4p hgl4 hpl4 HI2 HS2 HCG HFS4 hcg4 hc4 HV1 HLA HFS
      repeat (first | (refine plan_skip rfl rfl ?_; simp only [List.getElem_toArray, List.getElem_cons_succ, List.getElem_cons_zero, Act.put, List.setIfInBounds_toArray, List.set_cons_zero, List.set_cons_succ]) | (refine plan_pass2 rfl rfl ?_; simp only [List.getElem_toArray, List.getElem_cons_succ, List.getElem_cons_zero, Act.put, List.setIfInBounds_toArray, List.set_cons_zero, List.set_cons_succ]) | (refine plan_pass3 rfl rfl ?_; simp only [List.getElem_toArray, List.getElem_cons_succ, List.getElem_cons_zero, Act.put, List.setIfInBounds_toArray, List.set_cons_zero, List.set_cons_succ]) | (refine plan_take (v := ?_) rfl rfl ?_ ?_; rotate_left; (focus (intro w0; go_simp; try with_reducible rfl)); simp only [List.getElem_toArray, List.getElem_cons_succ, List.getElem_cons_zero, Act.put, List.setIfInBounds_toArray, List.set_cons_zero, List.set_cons_succ]) | (refine plan_held (v := ?_) rfl rfl hS4 ?_ ?_; rotate_left; (focus (intro w0 hSw; (try dsimp only at hSw); go_split_ands; go_simp; try with_reducible rfl)); simp only [List.getElem_toArray, List.getElem_cons_succ, List.getElem_cons_zero, Act.put, List.setIfInBounds_toArray, List.set_cons_zero, List.set_cons_succ])  | (refine plan_skip1 rfl rfl hS4 ?_; simp only [List.getElem_toArray, List.getElem_cons_succ, List.getElem_cons_zero, Act.put, List.setIfInBounds_toArray, List.set_cons_zero, List.set_cons_succ]))
      (refine plan_do rfl rfl fun K hK => ?_; try simp only [List.getElem_toArray, List.getElem_cons_succ, List.getElem_cons_zero])
      go_simp
      refine (RefAgain_any po fs X.s _ HS4.out).mono ?_; rintro e w5 ⟨v2, rfl, hv2, hm5⟩
      have hS5 : w5.cell? ⟨xb, 0, none⟩ = some (.slice (some ⟨g, 0, none⟩) n cap) ∧ w5.cell? ⟨g, k, none⟩ = some (.pointer (some ⟨pbo X.node, 0, none⟩)) ∧ w5.cell? ⟨pbo X.node, 3, none⟩ = some (.pointer (some ⟨po, 0, none⟩)) := ⟨hm5.cell (fun f => f) hS4.1, hm5.cell (fun f => f) hS4.2.1, hm5.cell (fun f => f) hS4.2.2⟩
      refine hK _ _ hS5 ?_
      clear hK K
      try simp only [List.getElem_toArray, List.getElem_cons_succ, List.getElem_cons_zero, Act.put, List.setIfInBounds_toArray, List.set_cons_zero, List.set_cons_succ]
      have HLA5 := Lib.hid ((HH4.out.life HFI.out).2.keep hm5 fun _ _ f => f)
      have HV2 := Lib.hid hv2.reads
      have HM5 := Lib.hid hm5
      clear hv2 hm5 hS4
      repeat (first | (refine plan_skip rfl rfl ?_; simp only [List.getElem_toArray, List.getElem_cons_succ, List.getElem_cons_zero, Act.put, List.setIfInBounds_toArray, List.set_cons_zero, List.set_cons_succ]) | (refine plan_pass2 rfl rfl ?_; simp only [List.getElem_toArray, List.getElem_cons_succ, List.getElem_cons_zero, Act.put, List.setIfInBounds_toArray, List.set_cons_zero, List.set_cons_succ]) | (refine plan_pass3 rfl rfl ?_; simp only [List.getElem_toArray, List.getElem_cons_succ, List.getElem_cons_zero, Act.put, List.setIfInBounds_toArray, List.set_cons_zero, List.set_cons_succ]) | (refine plan_take (v := ?_) rfl rfl ?_ ?_; rotate_left; (focus (intro w0; go_simp; try with_reducible rfl)); simp only [List.getElem_toArray, List.getElem_cons_succ, List.getElem_cons_zero, Act.put, List.setIfInBounds_toArray, List.set_cons_zero, List.set_cons_succ]) | (refine plan_held (v := ?_) rfl rfl hS5 ?_ ?_; rotate_left; (focus (intro w0 hSw; (try dsimp only at hSw); go_split_ands; go_simp; try with_reducible rfl)); simp only [List.getElem_toArray, List.getElem_cons_succ, List.getElem_cons_zero, Act.put, List.setIfInBounds_toArray, List.set_cons_zero, List.set_cons_succ])  | (refine plan_skip1 rfl rfl hS5 ?_; simp only [List.getElem_toArray, List.getElem_cons_succ, List.getElem_cons_zero, Act.put, List.setIfInBounds_toArray, List.set_cons_zero, List.set_cons_succ]))
      (refine plan_do rfl rfl fun K hK => ?_; try simp only [List.getElem_toArray, List.getElem_cons_succ, List.getElem_cons_zero])
      go_simp
      refine (RBodies_any (pbo X.node) _ X v2 X.s.again _ HLA5.out HV2.out (by omega)).mono ?_; rintro e w6 ⟨v3, rfl, hv3, hm6⟩
      have hS6 : w6.cell? ⟨xb, 0, none⟩ = some (.slice (some ⟨g, 0, none⟩) n cap) ∧ w6.cell? ⟨g, k, none⟩ = some (.pointer (some ⟨pbo X.node, 0, none⟩)) ∧ w6.cell? ⟨pbo X.node, 3, none⟩ = some (.pointer (some ⟨po, 0, none⟩)) := ⟨hm6.cell (fun f => f) hS5.1, hm6.cell (fun f => f) hS5.2.1, hm6.cell (fun f => f) hS5.2.2⟩
      refine hK _ _ hS6 ?_
      clear hK K
      try simp only [List.getElem_toArray, List.getElem_cons_succ, List.getElem_cons_zero, Act.put, List.setIfInBounds_toArray, List.set_cons_zero, List.set_cons_succ]
      have hm46 := HM5.out.trans hm6 fun _ f => f.elim
      have HH6 := Lib.hid (HH4.out.grow hm46 (fun _ _ f => f) (.inr 9))
      have HB6 := Lib.hid (HB4.out.step hm46 (fun _ f => f.elim) (.inr 9))
      have HM6 := Lib.hid (HM4.out.trans hm46 fun _ f => f.elim)
      have HRA6 := Lib.hid (HRA4.out.dyeKeep hm46 (fun _ _ f => f) (.inr 9))
      have HRB6 := Lib.hid (HRB4.out.dyeKeep hm46 (fun _ _ f => f) (.inr 9))
      have hgl6 : g < w4.heap.size := by
        obtain ⟨_, _, e, _, _, _, h⟩ := HH4.out.form
        injection e with e2 e3 e4
        obtain ⟨g', e5, _, h6, _⟩ := h (by have := HNN.out; omega)
        rw [e5] at e2
        injection e2 with e2
        injection e2 with e2
        omega
      have hpl6 : pbo X.node < w4.heap.size := (HH4.out.life HFI.out).2.2.1.2
      have hcg6 : dyed c4 w4 (.inr 9) g = .inr 1 ∧ dyed c4 w4 (.inr 9) (pbo X.node) = .inl X.node := by
        rw [dyed_old hgl6, dyed_old hpl6]; exact HCG4.out
      generalize hc6 : dyed c4 w4 (.inr 9) = c6 at HH6 HB6 HRA6 HRB6 hcg6
      have hsd : X.s.again.map X.body = X.agains := rfl
      rw [hsd] at hv3
      have HV3 := Lib.hid hv3.reads
      have HCG6 := Lib.hid hcg6
      clear hS5 hm6 hm46 hv3 hsd hgl6 hpl6 hcg6 hc6 HH4 HB4 HM4 HRA4 HRB4 HCG4 HM5 HLA5 HV2 HS4
      repeat (first | (refine plan_skip rfl rfl ?_; simp only [List.getElem_toArray, List.getElem_cons_succ, List.getElem_cons_zero, Act.put, List.setIfInBounds_toArray, List.set_cons_zero, List.set_cons_succ]) | (refine plan_pass2 rfl rfl ?_; simp only [List.getElem_toArray, List.getElem_cons_succ, List.getElem_cons_zero, Act.put, List.setIfInBounds_toArray, List.set_cons_zero, List.set_cons_succ]) | (refine plan_pass3 rfl rfl ?_; simp only [List.getElem_toArray, List.getElem_cons_succ, List.getElem_cons_zero, Act.put, List.setIfInBounds_toArray, List.set_cons_zero, List.set_cons_succ]) | (refine plan_take (v := ?_) rfl rfl ?_ ?_; rotate_left; (focus (intro w0; go_simp; try with_reducible rfl)); simp only [List.getElem_toArray, List.getElem_cons_succ, List.getElem_cons_zero, Act.put, List.setIfInBounds_toArray, List.set_cons_zero, List.set_cons_succ]) | (refine plan_held (v := ?_) rfl rfl hS6 ?_ ?_; rotate_left; (focus (intro w0 hSw; (try dsimp only at hSw); go_split_ands; go_simp; try with_reducible rfl)); simp only [List.getElem_toArray, List.getElem_cons_succ, List.getElem_cons_zero, Act.put, List.setIfInBounds_toArray, List.set_cons_zero, List.set_cons_succ])  | (refine plan_skip1 rfl rfl hS6 ?_; simp only [List.getElem_toArray, List.getElem_cons_succ, List.getElem_cons_zero, Act.put, List.setIfInBounds_toArray, List.set_cons_zero, List.set_cons_succ]))
      (refine plan_do rfl rfl fun K hK => ?_; try simp only [List.getElem_toArray, List.getElem_cons_succ, List.getElem_cons_zero])
      refine wp_append_reads Tryz.elMsg (.tmp 27) (.tmp 46) rfl (fun k => c6 k = .inr 5) _ ms.length _ rfl HRB6.out v3 X.s.again.length (MsgV.vals X.agains) rfl HV3.out (by rw [MsgV.vals_len]; simp [RLife.agains]) (MsgV.vals_all _) (by omega) (by unfold maxLen; omega) ?_
      intro v7 w7 hR hm7
      have hn5g : ¬ c6 g = .inr 5 := fun e => by rw [HCG6.out.1] at e; cases e
      have hn5p : ¬ c6 (pbo X.node) = .inr 5 := fun e => by rw [HCG6.out.2] at e; cases e
      refine hK _ _ ⟨hm7.cell (fun e => inr_ne (by decide) HH6.out.f0 e) hS6.1, hm7.cell hn5g hS6.2.1, hm7.cell hn5p hS6.2.2⟩ ?_
      clear hK K hS6 hn5g hn5p
      try simp only [List.getElem_toArray, List.getElem_cons_succ, List.getElem_cons_zero, Act.put, List.setIfInBounds_toArray, List.set_cons_zero, List.set_cons_succ]
      have hI7 : XBeatI w w7 f xb l gs (.slice (some ⟨g, 0, none⟩) n cap) gv pbo (dyed c6 w6 (.inr 5)) (.slice a4 (k + 1) cp4) v7 (k + 1) (ms ++ X.agains) := ⟨HH6.out.grow hm7 (fun k hk => hub_ne (by decide) hk) (.inr 5), HB6.out.step hm7 (fun k hk => inr_ne (by decide) hk) (.inr 5), HM6.out.trans hm7 fun k hk => .inr (HB6.out.cl k 5 hk (by decide) (by decide)), (by
        have := HRA6.out.dyeKeep hm7 (fun k hk => inr_ne (by decide) hk) (.inr 5)
        rw [HTK.out, List.map_append, MsgV.vals_app]
        simpa [MsgV.vals] using this), (by rw [MsgV.vals_app, List.length_append, show X.agains.length = X.s.again.length by simp [RLife.agains]]; exact row_dyed hR), (by rw [List.length_append, show X.agains.length = X.s.again.length by simp [RLife.agains]]; omega), (by rw [HEQ.out, HTK.out, List.flatMap_append]; simp)⟩
      obtain ⟨a7, cp7, rfl, _, _, _⟩ := hR.form
      have HI7 := Lib.hid hI7
      clear hR hm7 hI7 HH6 HB6 HM6 HRA6 HRB6 HCG6 HV3
      repeat (first | (refine plan_skip rfl rfl ?_; simp only [List.getElem_toArray, List.getElem_cons_succ, List.getElem_cons_zero, Act.put, List.setIfInBounds_toArray, List.set_cons_zero, List.set_cons_succ]) | (refine plan_pass2 rfl rfl ?_; simp only [List.getElem_toArray, List.getElem_cons_succ, List.getElem_cons_zero, Act.put, List.setIfInBounds_toArray, List.set_cons_zero, List.set_cons_succ]) | (refine plan_pass3 rfl rfl ?_; simp only [List.getElem_toArray, List.getElem_cons_succ, List.getElem_cons_zero, Act.put, List.setIfInBounds_toArray, List.set_cons_zero, List.set_cons_succ]) | (refine plan_take (v := ?_) rfl rfl ?_ ?_; rotate_left; (focus (intro w0; go_simp; try with_reducible rfl)); simp only [List.getElem_toArray, List.getElem_cons_succ, List.getElem_cons_zero, Act.put, List.setIfInBounds_toArray, List.set_cons_zero, List.set_cons_succ]) | fail )
      refine plan_nil ?_
      go_wp2
      go_roundw
      case rel => exact ⟨k + 1, by omega, by go_num, _, _, HI7.out⟩
      case measure => simp [intOf]; omega
    · have hki : ¬ (k : Int) < (n : Int) := by omega
      have hkn : k = n := by omega
      have e1 : l.take k = l := by rw [hkn, HNN.out]; exact List.take_length
      have hra := HI.out.ra
      have hrb := HI.out.rb
      have hlen := HI.out.len
      have hkl : k = (l.map RLife.hello).length := by rw [hkn, HNN.out]; simp
      have HMS : Hid (l.map RLife.hello ++ ms = mz ∧ mz.length = k + ms.length) := Lib.hid (by
        have e2 : l.map RLife.hello ++ ms = mz := by rw [HMZ.out, HI.out.eq, e1]; rfl
        exact ⟨e2, by rw [← e2, List.length_append, ← hkl]⟩)
      rw [e1] at hra
      have HRA := Lib.hid hra
      have HRB := Lib.hid hrb
      clear hra hrb e1 hkl hkn
      go_wp2_with (at_builtin; go_loud (refine wpList_append_reads Tryz.elMsg rfl (.tmp 48) (.tmp 49) rfl (fun k => c k = .inr 4) _ k _ rfl HRA.out (.slice ba ms.length bc) ms.length (MsgV.vals ms) rfl HRB.out.reads (by rw [MsgV.vals_len]) (MsgV.vals_all _) (by omega) (by unfold maxLen; omega) ?_); intro v5 w5 hR5 hm5)
      go_ret
      refine ⟨_, rfl, ?_, HI.out.mod0.trans hm5 fun k hk => .inr (HI.out.bag.cl k 4 hk (by decide) (by decide))⟩
      rw [HMS.out.2, ← HMS.out.1, MsgV.vals_app]
      have hs := HI.out.mod0.size
      exact hR5.mono fun k hk => by
        rcases hk with hk | hk
        · exact HI.out.bag.cl k 4 hk (by decide) (by decide)
        · exact Nat.le_trans hs hk
end Go.Proofs.YtidkapanpieflaaGreat
namespace Go.Proofs.YtidkapanpieflaaGreat
open Go.RowKit Go.ChangeShapes Go.WideShapes Go.ChangeAt
set_option linter.unusedVariables false
set_option linter.unusedSimpArgs false
set_option maxRecDepth 100000
structure LinkActV where
  kind : Int
  node : Int
  m : MsgV
def LinkActV.cells (a : LinkActV) : Array Value := #[.int .i64 a.kind, .int .i64 a.node, .int .i64 a.m.node, .bool a.m.up, .int .u32 a.m.epoch, .int .i64 a.m.kind, .int .u32 a.m.ack, .int .u32 a.m.seq, .string a.m.body]
/-- the message of a call, its body cut -/
def LinkActV.cut (a : LinkActV) : LinkActV := { a with m := { a.m with body := cutB a.m.body 8 } }
theorem LinkAct_any (a : LinkActV) (w : World) : Calls Tryz.prog 5 #[.agg a.cells] w fun e w' => e = .returned (.agg a.cut.cells) ∧ Mod (fun _ => False) w w' := by
  obtain ⟨k, n, m0, m1, m2, m3, m4, m5, mb⟩ := a
  unfold LinkActV.cut LinkActV.cells
  go_enter Tryz.func5, Tryz.ntmps5
  go_wp2_with fail
  refine (Cut_any mb 8 (by decide) (by decide) _).mono ?_; rintro e w' ⟨rfl, rfl⟩
  go_wp2
  go_returns
  exact ⟨rfl, ((Mod.refl _ _).alloc _).alloc _⟩
def LinkRow (w : World) (v : Value) (n : Nat) (l : Nat → LinkActV) : Prop :=
  ∃ ad cap, v = .slice ad n cap ∧ n ≤ cap ∧ cap ≤ maxLen ∧ (0 < n → ∃ g o, ad = some ⟨g, o, none⟩ ∧ g < w.heap.size ∧ ∀ i, i < n → (l i).m.Ok ∧ ∀ j u, (l i).cells[j]? = some u → w.cell? ⟨g, o + i * 9 + j, none⟩ = some u)
theorem link_row {H : Type} {enc : TypeId × Value → H} {W : World} {v : Value} {d : DataW H} {ps : List MemPlace} {base : Nat} (hv : Value.okWide Tryz.prog W .any base 22 v) (h : DataW.Trod enc Tryz.prog W 0 (fun _ => true) true 22 v d ps) :
    ∃ (n : Nat) (l : Nat → LinkActV), LinkRow W v n l := by
  obtain ⟨a0, len, cap, rfl⟩ := okWide_slice Tryz.underlying22 hv
  obtain ⟨fuel, hf⟩ := h
  have dm : MsgV := ⟨0, false, 0, 0, 0, 0, ⟨#[]⟩⟩
  rcases Go.Deep.open_slice Tryz.underlying22 hf with ⟨hcs, hx⟩ | ⟨a, len', cap', m, n, D, Pl, hcs, _, hl, hm, hmm, hx, hall⟩
  · simp [Value.cells] at hcs
    obtain ⟨rfl, rfl, rfl⟩ := hcs
    exact ⟨0, fun _ => ⟨0, 0, dm⟩, none, 0, rfl, Nat.le_refl _, by unfold maxLen; omega, fun h => absurd h (by omega)⟩
  · simp [Value.cells] at hcs
    obtain ⟨rfl, rfl, rfl⟩ := hcs
    have hmc : m = cap := by rw [hmm]; simp
    have each : ∀ i, i < len → ∃ z : LinkActV, z.m.Ok ∧ ∀ j u, z.cells[j]? = some u → W.cell? (a.add (i * 9 + j)) = some u := by
      intro i hi
      obtain ⟨cs', h1, h2⟩ := hall i (by omega)
      rw [show Tryz.prog.cellsOf 34 = 9 from by kernel_rfl] at h1
      obtain ⟨_, hlen, hcell⟩ := World.cells?_some h1
      obtain ⟨xs, k, hk, hxy, _, hxl, hg⟩ := DataW.trod_struct Tryz.underlying34 h2
      match xs, hxl, cs', hlen with
      | [y0, y1, y2], _, [v0, v1, v2, v3, v4, v5, v6, v7, v8], _ =>
        have g0 : DataW.trod enc Tryz.prog W 0 (fun _ => true) true k 3 (List.take (Tryz.prog.cellsOf 3) (List.drop 0 [v0, v1, v2, v3, v4, v5, v6, v7, v8])) = [y0, y1, y2][0]? := hg 0 _ rfl
        have g1 : DataW.trod enc Tryz.prog W 0 (fun _ => true) true k 3 (List.take (Tryz.prog.cellsOf 3) (List.drop 1 [v0, v1, v2, v3, v4, v5, v6, v7, v8])) = [y0, y1, y2][1]? := hg 1 _ rfl
        have g2 : DataW.trod enc Tryz.prog W 0 (fun _ => true) true k 32 (List.take (Tryz.prog.cellsOf 32) (List.drop 2 [v0, v1, v2, v3, v4, v5, v6, v7, v8])) = [y0, y1, y2][2]? := hg 2 _ rfl
        rw [show Tryz.prog.cellsOf 3 = 1 from by kernel_rfl] at g0 g1
        rw [show Tryz.prog.cellsOf 32 = 7 from by kernel_rfl] at g2
        obtain ⟨z0, e0, _, b0⟩ := DataW.trod_int Tryz.underlying3 (x := y0) g0
        obtain ⟨z1, e1, _, b1⟩ := DataW.trod_int Tryz.underlying3 (x := y1) g1
        obtain ⟨ys, k2, _, _, _, hyl, hq⟩ := DataW.trod_struct Tryz.underlying32 (x := y2) g2
        match ys, hyl with
        | [t0, t1, t2, t3, t4, t5, t6], _ =>
          have f0 : DataW.trod enc Tryz.prog W 0 (fun _ => true) true k2 3 (List.take (Tryz.prog.cellsOf 3) (List.drop 0 (List.take 7 (List.drop 2 [v0, v1, v2, v3, v4, v5, v6, v7, v8])))) = [t0, t1, t2, t3, t4, t5, t6][0]? := hq 0 _ rfl
          rw [show Tryz.prog.cellsOf 3 = 1 from by kernel_rfl] at f0
          obtain ⟨q0, r0, _, w0⟩ := DataW.trod_int Tryz.underlying3 (x := t0) f0
          have f1 : DataW.trod enc Tryz.prog W 0 (fun _ => true) true k2 4 (List.take (Tryz.prog.cellsOf 4) (List.drop 1 (List.take 7 (List.drop 2 [v0, v1, v2, v3, v4, v5, v6, v7, v8])))) = [t0, t1, t2, t3, t4, t5, t6][1]? := hq 1 _ rfl
          rw [show Tryz.prog.cellsOf 4 = 1 from by kernel_rfl] at f1
          obtain ⟨q1, r1, _⟩ := DataW.trod_bool Tryz.underlying4 (x := t1) f1
          have f2 : DataW.trod enc Tryz.prog W 0 (fun _ => true) true k2 30 (List.take (Tryz.prog.cellsOf 30) (List.drop 2 (List.take 7 (List.drop 2 [v0, v1, v2, v3, v4, v5, v6, v7, v8])))) = [t0, t1, t2, t3, t4, t5, t6][2]? := hq 2 _ rfl
          rw [show Tryz.prog.cellsOf 30 = 1 from by kernel_rfl] at f2
          obtain ⟨q2, r2, _, w2⟩ := DataW.trod_int Tryz.underlying30 (x := t2) f2
          have f3 : DataW.trod enc Tryz.prog W 0 (fun _ => true) true k2 3 (List.take (Tryz.prog.cellsOf 3) (List.drop 3 (List.take 7 (List.drop 2 [v0, v1, v2, v3, v4, v5, v6, v7, v8])))) = [t0, t1, t2, t3, t4, t5, t6][3]? := hq 3 _ rfl
          rw [show Tryz.prog.cellsOf 3 = 1 from by kernel_rfl] at f3
          obtain ⟨q3, r3, _, w3⟩ := DataW.trod_int Tryz.underlying3 (x := t3) f3
          have f4 : DataW.trod enc Tryz.prog W 0 (fun _ => true) true k2 30 (List.take (Tryz.prog.cellsOf 30) (List.drop 4 (List.take 7 (List.drop 2 [v0, v1, v2, v3, v4, v5, v6, v7, v8])))) = [t0, t1, t2, t3, t4, t5, t6][4]? := hq 4 _ rfl
          rw [show Tryz.prog.cellsOf 30 = 1 from by kernel_rfl] at f4
          obtain ⟨q4, r4, _, w4⟩ := DataW.trod_int Tryz.underlying30 (x := t4) f4
          have f5 : DataW.trod enc Tryz.prog W 0 (fun _ => true) true k2 30 (List.take (Tryz.prog.cellsOf 30) (List.drop 5 (List.take 7 (List.drop 2 [v0, v1, v2, v3, v4, v5, v6, v7, v8])))) = [t0, t1, t2, t3, t4, t5, t6][5]? := hq 5 _ rfl
          rw [show Tryz.prog.cellsOf 30 = 1 from by kernel_rfl] at f5
          obtain ⟨q5, r5, _, w5⟩ := DataW.trod_int Tryz.underlying30 (x := t5) f5
          have f6 : DataW.trod enc Tryz.prog W 0 (fun _ => true) true k2 9 (List.take (Tryz.prog.cellsOf 9) (List.drop 6 (List.take 7 (List.drop 2 [v0, v1, v2, v3, v4, v5, v6, v7, v8])))) = [t0, t1, t2, t3, t4, t5, t6][6]? := hq 6 _ rfl
          rw [show Tryz.prog.cellsOf 9 = 1 from by kernel_rfl] at f6
          obtain ⟨q6, r6, _, _⟩ := DataW.trod_string Tryz.underlying9 (x := t6) f6
          simp at r0 r1 r2 r3 r4 r5 r6
          subst r0 r1 r2 r3 r4 r5 r6
          simp at e0 e1
          subst e0 e1
          refine ⟨⟨z0, z1, ⟨q0, q1, q2, q3, q4, q5, q6⟩⟩, ⟨(u32_bd w4).1, (u32_bd w4).2, (u32_bd w5).1, (u32_bd w5).2, (u32_bd w2).1, (u32_bd w2).2, (i64_bd w0).1, (i64_bd w0).2, (i64_bd w3).1, (i64_bd w3).2⟩, fun j u hu => ?_⟩
          have hj : j < 9 := (Array.getElem?_eq_some_iff.1 hu).1
          have hc := hcell j hj
          rw [Go.Deep.add_add] at hc
          rw [hc, ← hu]
          simp [LinkActV.cells]
    by_cases h0 : 0 < len
    · obtain ⟨g, o, sp⟩ := a
      have hsp : sp = none := by
        obtain ⟨z, _, h1⟩ := each 0 h0
        have h1 := h1 0 _ rfl
        cases sp with
        | none => rfl
        | some x =>
          rw [Nat.zero_mul] at h1
          unfold World.cell? Addr.add at h1
          simp at h1
          split at h1 <;> cases h1
      subst hsp
      have each' : ∀ i, i < len → ∃ z : LinkActV, z.m.Ok ∧ ∀ j u, z.cells[j]? = some u → W.cell? ⟨g, o + i * 9 + j, none⟩ = some u := fun i hi => by
        obtain ⟨z, h1, h2⟩ := each i hi
        refine ⟨z, h1, fun j u hu => ?_⟩
        have := h2 j u hu
        rwa [addr_add, ← Nat.add_assoc] at this
      refine ⟨len, fun i => if h : i < len then Classical.choose (each' i h) else ⟨0, 0, dm⟩, _, cap, rfl, hl, hm, fun _ => ⟨g, o, rfl, ?_, fun i hi => ?_⟩⟩
      · obtain ⟨z, _, h1⟩ := each' 0 h0
        have h1 := h1 0 _ rfl
        rcases Nat.lt_or_ge g W.heap.size with h | h
        · exact h
        · exact absurd h1 (by simp [World.cell?, Array.getElem?_eq_none h])
      · dsimp only
        rw [dif_pos hi]
        exact Classical.choose_spec (each' i hi)
    · exact ⟨len, fun _ => ⟨0, 0, dm⟩, _, cap, rfl, hl, hm, fun h => absurd h h0⟩
end Go.Proofs.YtidkapanpieflaaGreat
namespace Go.Proofs.YtidkapanpieflaaGreat
open Go.RowKit
set_option linter.unusedVariables false
set_option linter.unusedSimpArgs false
structure HubsM (w wr : World) (p q : Nat) (c : Nat → Nat) (l : List Life) (G : Int → Option Int) (xs : List RLife) (gs : List (Int × Int)) : Prop where
  col : Col w wr c
  e : HubAt wr (fun k => c k = 1) p l G
  x : XAt wr (fun k => c k = 2) q xs gs
section
variable {w wr w' : World} {p q : Nat} {c : Nat → Nat} {l l' : List Life} {G G' : Int → Option Int} {xs xs' : List RLife} {gs gs' : List (Int × Int)}
theorem HubsM.still (h : HubsM w wr p q c l G xs gs) (hm : Mod (fun _ => False) wr w') (i : Nat) : HubsM w w' p q (paint c wr w' i) l G xs gs :=
  ⟨h.col.still hm i, (h.e.keep hm fun _ _ f => f).mono (paint_away h.col (by decide) i), (h.x.keep hm fun _ _ f => f).mono (paint_away h.col (by decide) i)⟩
theorem HubsM.eM (h : HubsM w wr p q c l G xs gs) (he : HubAt w' (fun k => c k = 1 ∨ wr.heap.size ≤ k) p l' G') (hm : Mod (fun k => c k = 1) wr w') : HubsM w w' p q (paint c wr w' 1) l' G' xs gs :=
  ⟨h.col.step hm (by decide) 1, he.mono (paint_mine h.col (by decide)), (h.x.keep hm (mod_away (by decide))).mono (paint_away h.col (by decide) 1)⟩
theorem HubsM.xM (h : HubsM w wr p q c l G xs gs) (hx : XAt w' (fun k => c k = 2 ∨ wr.heap.size ≤ k) q xs' gs') (hm : Mod (fun k => c k = 2) wr w') : HubsM w w' p q (paint c wr w' 2) l G xs' gs' :=
  ⟨h.col.step hm (by decide) 2, (h.e.keep hm (mod_away (by decide))).mono (paint_away h.col (by decide) 2), hx.mono (paint_mine h.col (by decide))⟩
theorem HubsM.drew (h : HubsM w wr p q c l G xs gs) : HubsM w wr.drew p q c l G xs gs :=
  ⟨h.col.drew, h.e.keep (Mod.refl (fun _ => False) _).drew fun _ _ f => f, h.x.keep (Mod.refl (fun _ => False) _).drew fun _ _ f => f⟩
theorem XAt.ok {f : Nat → Prop} (h : XAt w f q xs gs) : ∀ X ∈ xs, X.s.Ok := fun X hX => by
  obtain ⟨lv, gv, pbo, c, h1, _⟩ := h
  obtain ⟨_, _, _, _, hs, _⟩ := (h1.fam X hX).sub
  exact hs.1
end
structure HubsL (l : List Life) (G : Int → Option Int) (xs : List RLife) (gs : List (Int × Int)) (j : Nat) : Prop where
  abs : xs.map RLife.abs = l
  gone : GoneR G gs
  len : xs.length ≤ j
  lenG : gs.length ≤ j
  small : Small xs j (64 * j)
section
variable {l l' : List Life} {G : Int → Option Int} {xs xs' : List RLife} {gs : List (Int × Int)} {j : Nat}
theorem Small.up {a b a' b' : Nat} (h : Small xs a b) (ha : a ≤ a') (hb : b ≤ b') : Small xs a' b' := fun X hX => ⟨Nat.le_trans (h X hX).1 ha, Nat.le_trans (h X hX).2 hb⟩
theorem HubsL.find (h : HubsL l G xs gs j) (n : Int) : hfind Life.node l n = (hfind RLife.node xs n).map RLife.abs := by rw [← h.abs]; exact hfind_map RLife.abs abs_node xs n
theorem hput_len_of {α : Type} {nd : α → Int} {l : List α} (ha : Asc nd l) {x y : α} (hf : hfind nd l (nd y) = some x) : (hput nd l y).length = l.length := by
  obtain ⟨h1, h2⟩ := hfind_mem hf
  obtain ⟨s, t, rfl⟩ := List.append_of_mem h1
  rw [hput_mid ha h2.symm]
  simp
theorem push_le2 (s : RefS) (b : ByteArray) : (s.push b).l.length ≤ s.l.length + 1 := push_le s b
theorem HubsL.push (h : HubsL l G xs gs j) (ok : ∀ X ∈ xs, X.s.Ok) (ha : Asc RLife.node xs) (n : Int) (b : ByteArray) :
    ((hfind Life.node l n).elim false fun L => L.out.full) = ((hfind RLife.node xs n).elim false fun X => X.s.free) ∧
    HubsL ((hfind Life.node l n).elim l fun L => hput Life.node l { L with out := L.out.push b }) G ((hfind RLife.node xs n).elim xs fun X => hput RLife.node xs { X with s := X.s.push b }) gs (j + 1) := by
  rw [h.find n]
  cases hf : hfind RLife.node xs n with
  | none => exact ⟨rfl, h.abs, h.gone, Nat.le_succ_of_le h.len, Nat.le_succ_of_le h.lenG, h.small.up (by omega) (by omega)⟩
  | some X =>
    obtain ⟨hX, hn⟩ := hfind_mem hf
    have hok := ok X hX
    have e : RLife.abs { X with s := X.s.push b } = { X.abs with out := X.abs.out.push b } := by
      unfold RLife.abs
      simp only [snd_push hok]
    refine ⟨snd_full hok, ?_, h.gone, ?_, Nat.le_succ_of_le h.lenG, small_put (h.small.up (by omega) (by omega)) ⟨?_, ?_⟩⟩
    · show (hput RLife.node xs { X with s := X.s.push b }).map RLife.abs = hput Life.node l { X.abs with out := X.abs.out.push b }
      rw [← e, ← h.abs, hput_map (nd := RLife.node) RLife.abs abs_node]
    · show (hput RLife.node xs { X with s := X.s.push b }).length ≤ j + 1
      rw [hput_len_of (x := X) ha (by show hfind RLife.node xs X.node = some X; rw [hn]; exact hf)]
      have := h.len; omega
    · have := push_le X.s b; have := (h.small X hX).1; show (X.s.push b).l.length ≤ j + 1; omega
    · have := (h.small X hX).2; show X.r.n ≤ 64 * (j + 1); omega
theorem abs_sends {X : RLife} (ok : X.s.Ok) : X.abs.sends = X.sends ∧ X.abs.sent = X.sent.abs := by
  constructor
  · show X.s.snd.news.map X.abs.body = X.s.news.map X.body
    rw [snd_news ok]
    rfl
  · unfold Life.sent RLife.sent RLife.abs
    simp only [snd_send ok]
theorem HubsL.send (h : HubsL l G xs gs j) (ok : ∀ X ∈ xs, X.s.Ok) : l.flatMap Life.sends = xs.flatMap RLife.sends ∧ HubsL (l.map Life.sent) G (xs.map RLife.sent) gs (j + 1) := by
  refine ⟨?_, ?_, h.gone, by rw [List.length_map]; exact Nat.le_succ_of_le h.len, Nat.le_succ_of_le h.lenG, fun Y hY => ?_⟩
  · rw [← h.abs, List.flatMap_map]
    have : ∀ ys : List RLife, (∀ X ∈ ys, X.s.Ok) → ys.flatMap (fun X => X.abs.sends) = ys.flatMap RLife.sends := fun ys => by
      induction ys with
      | nil => intro _; rfl
      | cons y ys ih => intro hy; rw [List.flatMap_cons, List.flatMap_cons, ih fun X hX => hy X (List.mem_cons_of_mem _ hX), (abs_sends (hy y List.mem_cons_self)).1]
    exact this xs ok
  · rw [← h.abs, List.map_map, List.map_map]
    exact List.map_congr_left fun X hX => ((abs_sends (ok X hX)).2).symm
  · obtain ⟨X, hX, rfl⟩ := List.mem_map.1 hY
    have := h.small X hX
    exact ⟨by show X.s.l.length ≤ j + 1; omega, by show X.r.n ≤ 64 * (j + 1); omega⟩
theorem HubsL.beat (h : HubsL l G xs gs j) : beats l = xbeats xs ∧ HubsL l G xs gs (j + 1) := by
  refine ⟨?_, h.abs, h.gone, Nat.le_succ_of_le h.len, Nat.le_succ_of_le h.lenG, h.small.up (by omega) (by omega)⟩
  unfold beats xbeats
  rw [← h.abs, List.map_map, List.flatMap_map]
  congr 1
  have : ∀ X : RLife, X.abs.agains = X.agains := fun X => by
    show X.s.snd.again.map X.abs.body = X.s.again.map X.body
    rw [snd_again]
    rfl
  simp only [this]
theorem HubsL.drop (h : HubsL l G xs gs j) (ha : Asc RLife.node xs) (n : Int) :
    (hfind Life.node l n).isSome = (hfind RLife.node xs n).isSome ∧ HubsL (hdel Life.node l n) ((hfind Life.node l n).elim G fun L => fun k => if k = n then some L.epoch else G k) (hdel RLife.node xs n) ((hfind RLife.node xs n).elim gs fun X => goneDrop gs n X.epoch) (j + 1) := by
  have hd : ∀ X ∈ hdel RLife.node xs n, X ∈ xs := fun X hX => (mem_hdel.1 hX).1
  have hl : (hdel RLife.node xs n).length ≤ xs.length := List.length_filter_le _ _
  have h1 : (hdel RLife.node xs n).map RLife.abs = hdel Life.node l n := by rw [← h.abs, hdel_map (nd := RLife.node) RLife.abs abs_node]
  have h2 : Small (hdel RLife.node xs n) (j + 1) (64 * (j + 1)) := fun X hX => (h.small.up (a' := j + 1) (b' := 64 * (j + 1)) (by omega) (by omega)) X (hd X hX)
  have h3 := h.len
  rw [h.find n]
  cases hf : hfind RLife.node xs n with
  | none => exact ⟨rfl, h1, h.gone, by omega, Nat.le_succ_of_le h.lenG, h2⟩
  | some X =>
    refine ⟨rfl, h1, fun m e => ?_, by omega, ?_, h2⟩
    · show (if m = n then some X.epoch else G m) = some e ↔ (m, e) ∈ goneDrop gs n X.epoch
      unfold goneDrop
      rw [List.mem_append, List.mem_filter, List.mem_singleton]
      by_cases hm : m = n
      · subst hm
        rw [if_pos rfl]
        simp [eq_comm]
      · rw [if_neg hm, h.gone m e]
        simp [hm]
    · show (goneDrop gs n X.epoch).length ≤ j + 1
      unfold goneDrop
      have := List.length_filter_le (fun q : Int × Int => decide (q.1 ≠ n)) gs
      have := h.lenG
      rw [List.length_append, List.length_singleton]
      omega
theorem HubsL.hear (h : HubsL l G xs gs j) {xs2 : List RLife} (h1 : xs2.map RLife.abs = l') (h2 : xs2.length ≤ xs.length + 1) (h3 : Small xs2 j (64 * j + 64)) : HubsL l' G xs2 gs (j + 1) :=
  ⟨h1, h.gone, by have := h.len; omega, Nat.le_succ_of_le h.lenG, h3.up (by omega) (by omega)⟩
theorem HubsL.nodes (h : HubsL l G xs gs j) : l.map Life.node = xs.map RLife.node := by rw [← h.abs, List.map_map]; rfl
end
/-- two lists of numbers that are the same -/
theorem SameInt_any (a b : Value) (n : Nat) (xs : List Int) (w : World) (hn : xs.length = n) (ha : Reads w a n (xs.map (Value.int .i64))) (hb : Reads w b n (xs.map (Value.int .i64))) :
    Calls Tryz.prog 22 #[a, b] w fun e w' => e = .returned (.bool true) ∧ Mod (fun _ => False) w w' := by
  obtain ⟨aa, ac, rfl, han, hac, hag⟩ := ha
  obtain ⟨ba, bc, rfl, hbn, hbc, hbg⟩ := hb
  have HAG := Lib.hid hag
  have HBG := Lib.hid hbg
  have HN := Lib.hid hn
  unfold maxLen at hac hbc
  clear hag hbg hn
  go_enter Tryz.func22, Tryz.ntmps22
  go_wp2_with fail
  go_loopw [5] (fun i wr => ∃ j : Nat, j ≤ n ∧ i = .int .i64 (j : Int) ∧ Mod (fun _ => False) w wr) (fun i _ => n - (intOf i).toNat)
  case atStart => exact ⟨0, Nat.zero_le _, rfl, Mod.refl _ _⟩
  case round =>
    obtain ⟨j, hj, rfl, hm⟩ := hrel
    have HM := Lib.hid hm
    clear hm
    by_cases hlt : j < n
    · obtain ⟨g, o, rfl, hcg⟩ := HAG.out (by omega)
      obtain ⟨g', o', rfl, hcg'⟩ := HBG.out (by omega)
      obtain ⟨x, hx⟩ : ∃ x, x = xs[j]'(by rw [HN.out]; exact hlt) := ⟨_, rfl⟩
      have hki : (j : Int) < (n : Int) := by omega
      have hget : (xs.map (Value.int .i64))[j]? = some (.int .i64 x) := by rw [List.getElem?_map, List.getElem?_eq_getElem (by rw [HN.out]; exact hlt), hx]; rfl
      have x1 : wr.cell? ⟨g, o + j, none⟩ = some (.int .i64 x) := HM.out.cell (fun f => f) (hcg j _ hget)
      have x2 : wr.cell? ⟨g', o' + j, none⟩ = some (.int .i64 x) := HM.out.cell (fun f => f) (hcg' j _ hget)
      have hS : wr.drew.cell? ⟨g, o + j, none⟩ = some (.int .i64 x) ∧ wr.drew.cell? ⟨g', o' + j, none⟩ = some (.int .i64 x) := ⟨x1, x2⟩
      clear hcg hcg' hget hx x1 x2
      go_wp2_with fail
      refine wp_region_plan [] [(0, 0), (1, 0), (2, 0), (3, 1), (4, 0), (5, 0), (6, 0), (7, 1), (8, 0)] (fun w' : World => w'.cell? ⟨g, o + j, none⟩ = some (.int .i64 x) ∧ w'.cell? ⟨g', o' + j, none⟩ = some (.int .i64 x)) (by kernel_rfl) (by kernel_rfl) (fun d _ _ _ _ h => by cases d <;> exact h) ?_
      repeat (first | (refine plan_skip rfl rfl ?_; simp only [List.getElem_toArray, List.getElem_cons_succ, List.getElem_cons_zero, Act.put, List.setIfInBounds_toArray, List.set_cons_zero, List.set_cons_succ]) | (refine plan_pass2 rfl rfl ?_; simp only [List.getElem_toArray, List.getElem_cons_succ, List.getElem_cons_zero, Act.put, List.setIfInBounds_toArray, List.set_cons_zero, List.set_cons_succ]) | (refine plan_pass3 rfl rfl ?_; simp only [List.getElem_toArray, List.getElem_cons_succ, List.getElem_cons_zero, Act.put, List.setIfInBounds_toArray, List.set_cons_zero, List.set_cons_succ]) | (refine plan_take (v := ?_) rfl rfl ?_ ?_; rotate_left; (focus (intro w0; go_simp; try with_reducible rfl)); simp only [List.getElem_toArray, List.getElem_cons_succ, List.getElem_cons_zero, Act.put, List.setIfInBounds_toArray, List.set_cons_zero, List.set_cons_succ]) | (refine plan_held (v := ?_) rfl rfl hS ?_ ?_; rotate_left; (focus (intro w0 hSw; (try dsimp only at hSw); go_split_ands; go_simp; try with_reducible rfl)); simp only [List.getElem_toArray, List.getElem_cons_succ, List.getElem_cons_zero, Act.put, List.setIfInBounds_toArray, List.set_cons_zero, List.set_cons_succ])  | (refine plan_skip1 rfl rfl hS ?_; simp only [List.getElem_toArray, List.getElem_cons_succ, List.getElem_cons_zero, Act.put, List.setIfInBounds_toArray, List.set_cons_zero, List.set_cons_succ]))
      refine plan_nil ?_
      clear hS
      go_wp2
      go_roundw
      case rel => exact ⟨j + 1, by omega, by go_num, HM.out.drew⟩
      case measure => simp [intOf]; omega
    · have hki : ¬ (j : Int) < (n : Int) := by omega
      go_wp2
      go_ret
      exact ⟨rfl, HM.out⟩
end Go.Proofs.YtidkapanpieflaaGreat
namespace Go.Proofs.YtidkapanpieflaaGreat
open Go.RowKit
set_option linter.unusedVariables false
set_option linter.unusedSectionVars false
namespace R
variable [vl : Val]
section
variable {P : Program} {w : World} {r : Reach} {b : Nat} {t : TypeId} {v : Value}
theorem ok_one (h : Cell.okWide P w r b t v) : v.oneCell' = true := by
  unfold Cell.okWide at h
  split at h <;> first
    | rfl
    | (unfold Cell.ok at h; split at h <;> first | rfl | exact h.elim)
theorem ok_leaf {d : TypeDesc} (hd : P.underlying t = some d) (hn : (match d with | .struct _ | .array _ _ => false | _ => true) = true) (h : Value.okWide P w r b t v) : v.oneCell' = true := by
  unfold Value.okWide at h
  rw [hd] at h
  cases d <;> first | exact ok_one h | cases hn
theorem ok_agg {d : TypeDesc} (hd : P.underlying t = some d) (hn : (match d with | .struct _ | .array _ _ => true | _ => false) = true) (h : Value.okWide P w r b t v) :
    ∃ l : List Value, v = .agg l.toArray ∧ l.length = P.cellsOf t ∧ ∀ c ∈ l, c.oneCell' = true := by
  unfold Value.okWide at h
  rw [hd] at h
  have key : (∃ cs, v = .agg cs ∧ cs.size = P.cellsOf t ∧ Row.okWide P w r b t cs) → ∃ l : List Value, v = .agg l.toArray ∧ l.length = P.cellsOf t ∧ ∀ c ∈ l, c.oneCell' = true := by
    rintro ⟨⟨l⟩, rfl, h1, ts, _, _, h2⟩
    refine ⟨l, rfl, by simpa using h1, fun c hc => ?_⟩
    obtain ⟨i, hi⟩ := List.getElem?_of_mem hc
    obtain ⟨u, _, hu⟩ := h2 i c (by simpa using hi)
    exact ok_one hu
  cases d <;> first | exact key h | cases hn
end
end R
end Go.Proofs.YtidkapanpieflaaGreat
namespace Go.Proofs.YtidkapanpieflaaGreat
set_option maxRecDepth 100000
def extL : List (FuncId × R.XK) := []
theorem extAll : R.XAll Tryz.prog extL := trivial
set_option linter.unusedSectionVars false
variable [vl : R.Val]
theorem ext_ok : R.EOk Tryz.prog (R.EX extL) := R.EX_ok extAll
end Go.Proofs.YtidkapanpieflaaGreat
namespace Go.Proofs.YtidkapanpieflaaGreat
open Go.RowKit
set_option maxRecDepth 1000000 in
theorem lives29_any (w : World) : Calls Tryz.prog 25 #[] w fun e w' => e = .returned (.bool true) ∧ Mod (fun _ => False) w w' :=
  R.runs_eq (E := R.EX extL) (hE := ext_ok) (P := Tryz.prog) (n := 1000) (k := 100) (us := #[]) (xs := []) (y := .v (.c (.x (.bool true)))) (by kernel_rfl) (by kernel_rfl) (show R.LR _ _ _ from trivial) R.hu_true w
end Go.Proofs.YtidkapanpieflaaGreat
namespace Go.Proofs.YtidkapanpieflaaGreat
open Go.RowKit
set_option linter.unusedVariables false
set_option linter.unusedSimpArgs false
set_option maxHeartbeats 40000000 in
set_option maxRecDepth 100000 in
theorem hubs_walk (ask : Int) (v : Value) (n : Nat) (l : Nat → LinkActV) (w : World) (hl : LinkRow w v n l) :
    Calls Tryz.prog 3 #[v, .int .i64 ask] w fun e w' => e = .returned (.bool true) ∧ Mod (fun _ => False) w w' := by
  obtain ⟨ad, cap, rfl, hn, hc, hg⟩ := hl
  have hn63 : n ≤ 9223372036854775807 := by unfold maxLen at hc; omega
  have HG := Lib.hid hg
  clear hg
  go_enter Tryz.func3, Tryz.ntmps3
  go_wp2_with fail
  refine (NewHub_any _).mono ?_; rintro e w1 ⟨p, rfl, he, hm⟩
  have HE1 := Lib.hid he
  have HM1 := Lib.hid hm
  clear he hm
  go_wp2_with fail
  obtain ⟨q, hq⟩ : ∃ q, q = w1.heap.size := ⟨_, rfl⟩
  obtain ⟨w2, hw2⟩ : ∃ w2, w2 = w1.alloc (.cells #[.slice none 0 0, .slice none 0 0] 29) := ⟨_, rfl⟩
  have hb2 : Blk w2 q 29 [.slice none 0 0, .slice none 0 0] := by rw [hw2, hq]; exact Blk.new w1 _ _
  have hm2 : Mod (fun _ => False) w1 w2 := hw2 ▸ (Mod.refl _ _).alloc _
  try rw [← hw2]
  try rw [← hq]
  have hF : ∃ c, HubsM w w2 p q c [] (fun _ => none) [] [] := by
    obtain ⟨c1, hC, he⟩ : ∃ c, Col w w1 c ∧ HubAt w1 (fun k => c k = 1) p [] (fun _ => none) := ⟨_, (Col.start w).still HM1.out 1, HE1.out.mono (paint_born (fun _ => 0) w w1 1)⟩
    have hx : XAt w2 (fun k => w1.heap.size ≤ k) q [] [] := ⟨.slice none 0 0, .slice none 0 0, fun _ => 0, fun k => if k = q then .inr 0 else .inr 9, ⟨hb2, Row.nil _ _ _ _, Row.nil _ _ _ _, fun x hx => (by cases hx), List.Pairwise.nil, if_pos rfl, fun g hg => (by cases hg)⟩, fun k hk => by
      by_cases h : k = q
      · rw [h, hq]; exact Nat.le_refl _
      · simp [h] at hk⟩
    exact ⟨paint c1 w1 w2 2, hC.still hm2 2, (he.keep hm2 fun _ _ f => f).mono (paint_away hC (by decide) 2), hx.mono (paint_born c1 w1 w2 2)⟩
  have HF := Lib.hid hF
  clear hF hb2 hm2 hw2 hq HE1 HM1
  go_wp2_with fail
  go_loopw [7] (fun i wr => ∃ (j : Nat) (c : Nat → Nat) (L : List Life) (G : Int → Option Int) (xs : List RLife) (gs : List (Int × Int)), j ≤ n ∧ j ≤ 40 ∧ i = .int .i64 j ∧ HubsM w wr p q c L G xs gs ∧ HubsL L G xs gs j) (fun i _ => n - (intOf i).toNat)
  case atStart =>
    obtain ⟨c, hF⟩ := HF.out
    exact ⟨0, c, _, _, _, _, Nat.zero_le _, by decide, rfl, hF, ⟨rfl, fun m e => by simp, Nat.zero_le _, Nat.zero_le _, fun X hX => (by cases hX)⟩⟩
  case round =>
    obtain ⟨j, c, L, G, xs, gs, hj, hj40, rfl, hM, hL⟩ := hrel
    have HM := Lib.hid hM
    have HL := Lib.hid hL
    clear hM hL HF
    by_cases hlt : j < n
    · by_cases h40 : j < 40
      · obtain ⟨g, o, rfl, hgl, hcg⟩ := HG.out (by omega)
        obtain ⟨hok, hcl⟩ := hcg j hlt
        obtain ⟨z, hz⟩ : ∃ z, z = l j := ⟨_, rfl⟩
        rw [← hz] at hok hcl
        have x0 : wr.cell? ⟨g, o + j * 9, none⟩ = some (.int .i64 z.kind) := HM.out.col.mod.cell (fun f => f) (hcl 0 _ rfl)
        have x1 : wr.cell? ⟨g, o + j * 9 + 1, none⟩ = some (.int .i64 z.node) := HM.out.col.mod.cell (fun f => f) (hcl 1 _ rfl)
        have x2 : wr.cell? ⟨g, o + j * 9 + 2, none⟩ = some (.int .i64 z.m.node) := HM.out.col.mod.cell (fun f => f) (hcl 2 _ rfl)
        have x3 : wr.cell? ⟨g, o + j * 9 + 3, none⟩ = some (.bool z.m.up) := HM.out.col.mod.cell (fun f => f) (hcl 3 _ rfl)
        have x4 : wr.cell? ⟨g, o + j * 9 + 4, none⟩ = some (.int .u32 z.m.epoch) := HM.out.col.mod.cell (fun f => f) (hcl 4 _ rfl)
        have x5 : wr.cell? ⟨g, o + j * 9 + 5, none⟩ = some (.int .i64 z.m.kind) := HM.out.col.mod.cell (fun f => f) (hcl 5 _ rfl)
        have x6 : wr.cell? ⟨g, o + j * 9 + 6, none⟩ = some (.int .u32 z.m.ack) := HM.out.col.mod.cell (fun f => f) (hcl 6 _ rfl)
        have x7 : wr.cell? ⟨g, o + j * 9 + 7, none⟩ = some (.int .u32 z.m.seq) := HM.out.col.mod.cell (fun f => f) (hcl 7 _ rfl)
        have x8 : wr.cell? ⟨g, o + j * 9 + 8, none⟩ = some (.string z.m.body) := HM.out.col.mod.cell (fun f => f) (hcl 8 _ rfl)
        have HZC : Hid (z.cells = #[.int .i64 z.kind, .int .i64 z.node, .int .i64 z.m.node, .bool z.m.up, .int .u32 z.m.epoch, .int .i64 z.m.kind, .int .u32 z.m.ack, .int .u32 z.m.seq, .string z.m.body]) := Lib.hid rfl
        have hki : (j : Int) < (n : Int) := by omega
        have hki4 : (j : Int) < 40 := by omega
        clear hcg hcl hz
        go_wp2_with fail
        rw [← HZC.out]
        refine (LinkAct_any z _).mono ?_; rintro e w3 ⟨rfl, hm⟩
        have HM3 := Lib.hid (HM.out.still hm 8)
        obtain ⟨kd, hkd⟩ : ∃ kd, kd = z.kind := ⟨_, rfl⟩
        obtain ⟨m, hmz⟩ : ∃ m : MsgV, m = z.cut.m := ⟨_, rfl⟩
        have hzc : z.cut.cells = #[.int .i64 kd, .int .i64 z.node, .int .i64 m.node, .bool m.up, .int .u32 m.epoch, .int .i64 m.kind, .int .u32 m.ack, .int .u32 m.seq, .string m.body] := by rw [hkd, hmz]; rfl
        rw [hzc]
        have hmok : m.Ok := by rw [hmz]; exact ⟨hok.a0, hok.a1, hok.s0, hok.s1, hok.e0, hok.e1, hok.n0, hok.n1, hok.k0, hok.k1⟩
        have HOK := Lib.hid hmok
        generalize z.node = zn
        clear hm hzc hmok hok hmz HZC hkd x0 x1 x2 x3 x4 x5 x6 x7 x8 HM
        go_upto_block 2 with fail
        obtain ⟨wA, hwA⟩ : ∃ wA, wA = w3.alloc (.cells #[.int .i64 kd, .int .i64 zn, .int .i64 m.node, .bool m.up, .int .u32 m.epoch, .int .i64 m.kind, .int .u32 m.ack, .int .u32 m.seq, .string m.body] 34) := ⟨_, rfl⟩
        obtain ⟨pa, hpa⟩ : ∃ pa, pa = w3.heap.size := ⟨_, rfl⟩
        have hbA : wA.heap[pa]? = some (.cells #[.int .i64 kd, .int .i64 zn, .int .i64 m.node, .bool m.up, .int .u32 m.epoch, .int .i64 m.kind, .int .u32 m.ack, .int .u32 m.seq, .string m.body] 34 (0, 0)) := by rw [hwA, hpa]; exact allocNew w3 _
        obtain ⟨c4, hM4, hcp⟩ : ∃ c4, HubsM w wA p q c4 L G xs gs ∧ c4 pa = 9 := ⟨_, HM3.out.still (hwA ▸ (Mod.refl _ _).alloc _) 9, by rw [hpa]; exact paint_born _ w3 wA 9 _ (Nat.le_refl _) (by rw [hwA]; simp)⟩
        try rw [← hwA]
        try rw [← hpa]
        have HM4 := Lib.hid hM4
        have HB4 := Lib.hid hbA
        have HP4 := Lib.hid hcp
        have HSOK := Lib.hid hM4.x.ok
        have HASC := Lib.hid hM4.x.asc
        have hxl : xs.length ≤ 40 := Nat.le_trans HL.out.len hj40
        have hll : L.length ≤ 40 := by rw [← HL.out.abs, List.length_map]; exact hxl
        clear hM4 hbA hcp HM3 hwA hpa
        go_cut [9, 10, 11, 12, 13, 14] from 23 to 167 (fun _ _ _ _ _ _ wx => ∃ (c5 : Nat → Nat) (L2 : List Life) (G2 : Int → Option Int) (xs2 : List RLife) (gs2 : List (Int × Int)), HubsM w wx p q c5 L2 G2 xs2 gs2 ∧ HubsL L2 G2 xs2 gs2 (j + 1))
        case first =>
          by_cases hk0 : kd = 0
          · have hb0 : (kd == 0) = true := by simp [hk0]
            clear hk0
            as_aux_lemma =>
              go_wp2_with fail
              obtain ⟨hpe, hpn⟩ := HL.out.push HSOK.out HASC.out zn m.body
              obtain ⟨r9, hr9⟩ : ∃ r9, r9 = ((hfind RLife.node xs zn).elim false fun X => X.s.free) := ⟨_, rfl⟩
              rw [← hr9] at hpe
              have HPE := Lib.hid hpe
              have HN := Lib.hid hpn
              have HR9 := Lib.hid hr9.symm
              have hS : wA.drew.cell? ⟨pa, 1, none⟩ = some (.int .i64 zn) ∧ wA.drew.cell? ⟨pa, 8, none⟩ = some (.string m.body) := ⟨cellOf HB4.out 1, cellOf HB4.out 8⟩
              have HMD := Lib.hid HM4.out.drew
              clear hpe hpn hr9
              refine wp_region_plan [] [(0, 0), (1, 0), (2, 1), (3, 0), (4, 0), (5, 1), (7, 0), (8, 0), (9, 1), (10, 0), (11, 0), (12, 1), (6, 2), (13, 2), (14, 0)] (fun w' : World => w'.cell? ⟨pa, 1, none⟩ = some (.int .i64 zn) ∧ w'.cell? ⟨pa, 8, none⟩ = some (.string m.body)) (by kernel_rfl) (by kernel_rfl) (fun d _ _ _ _ h => by cases d <;> exact h) ?_
              repeat (first | (refine plan_skip rfl rfl ?_; simp only [List.getElem_toArray, List.getElem_cons_succ, List.getElem_cons_zero, Act.put, List.setIfInBounds_toArray, List.set_cons_zero, List.set_cons_succ]) | (refine plan_pass2 rfl rfl ?_; simp only [List.getElem_toArray, List.getElem_cons_succ, List.getElem_cons_zero, Act.put, List.setIfInBounds_toArray, List.set_cons_zero, List.set_cons_succ]) | (refine plan_pass3 rfl rfl ?_; simp only [List.getElem_toArray, List.getElem_cons_succ, List.getElem_cons_zero, Act.put, List.setIfInBounds_toArray, List.set_cons_zero, List.set_cons_succ]) | (refine plan_take (v := ?_) rfl rfl ?_ ?_; rotate_left; (focus (intro w0; go_simp; try with_reducible rfl)); simp only [List.getElem_toArray, List.getElem_cons_succ, List.getElem_cons_zero, Act.put, List.setIfInBounds_toArray, List.set_cons_zero, List.set_cons_succ]) | (refine plan_held (v := ?_) rfl rfl hS ?_ ?_; rotate_left; (focus (intro w0 hSw; (try dsimp only at hSw); go_split_ands; go_simp; try with_reducible rfl)); simp only [List.getElem_toArray, List.getElem_cons_succ, List.getElem_cons_zero, Act.put, List.setIfInBounds_toArray, List.set_cons_zero, List.set_cons_succ])  | (refine plan_skip1 rfl rfl hS ?_; simp only [List.getElem_toArray, List.getElem_cons_succ, List.getElem_cons_zero, Act.put, List.setIfInBounds_toArray, List.set_cons_zero, List.set_cons_succ]))
              (refine plan_do rfl rfl fun K hK => ?_; try simp only [List.getElem_toArray, List.getElem_cons_succ, List.getElem_cons_zero])
              go_simp
              refine (HPush_any HMD.out.e zn m.body).mono ?_; rintro e w5 ⟨rfl, he, hm⟩
              have hpw : pa < wA.drew.heap.size := lt_of_block HB4.out
              have hn1 : ¬ c4 pa = 1 := by rw [HP4.out]; decide
              have hS5 : w5.cell? ⟨pa, 1, none⟩ = some (.int .i64 zn) ∧ w5.cell? ⟨pa, 8, none⟩ = some (.string m.body) := ⟨hm.cell hn1 hS.1, hm.cell hn1 hS.2⟩
              refine hK _ _ hS5 ?_
              clear hK K hS
              try simp only [List.getElem_toArray, List.getElem_cons_succ, List.getElem_cons_zero, Act.put, List.setIfInBounds_toArray, List.set_cons_zero, List.set_cons_succ]
              rw [HPE.out]
              have HM5 := Lib.hid (HMD.out.eM he hm)
              have hcp5 : ¬ paint c4 wA.drew w5 1 pa = 2 := by rw [paint_away HMD.out.col (by decide) 1 pa HP4.out (Nat.lt_of_lt_of_le hpw hm.size)]; decide
              clear he hm hn1
              repeat (first | (refine plan_skip rfl rfl ?_; simp only [List.getElem_toArray, List.getElem_cons_succ, List.getElem_cons_zero, Act.put, List.setIfInBounds_toArray, List.set_cons_zero, List.set_cons_succ]) | (refine plan_pass2 rfl rfl ?_; simp only [List.getElem_toArray, List.getElem_cons_succ, List.getElem_cons_zero, Act.put, List.setIfInBounds_toArray, List.set_cons_zero, List.set_cons_succ]) | (refine plan_pass3 rfl rfl ?_; simp only [List.getElem_toArray, List.getElem_cons_succ, List.getElem_cons_zero, Act.put, List.setIfInBounds_toArray, List.set_cons_zero, List.set_cons_succ]) | (refine plan_take (v := ?_) rfl rfl ?_ ?_; rotate_left; (focus (intro w0; go_simp; try with_reducible rfl)); simp only [List.getElem_toArray, List.getElem_cons_succ, List.getElem_cons_zero, Act.put, List.setIfInBounds_toArray, List.set_cons_zero, List.set_cons_succ]) | (refine plan_held (v := ?_) rfl rfl hS5 ?_ ?_; rotate_left; (focus (intro w0 hSw; (try dsimp only at hSw); go_split_ands; go_simp; try with_reducible rfl)); simp only [List.getElem_toArray, List.getElem_cons_succ, List.getElem_cons_zero, Act.put, List.setIfInBounds_toArray, List.set_cons_zero, List.set_cons_succ])  | (refine plan_skip1 rfl rfl hS5 ?_; simp only [List.getElem_toArray, List.getElem_cons_succ, List.getElem_cons_zero, Act.put, List.setIfInBounds_toArray, List.set_cons_zero, List.set_cons_succ]))
              (refine plan_do rfl rfl fun K hK => ?_; try simp only [List.getElem_toArray, List.getElem_cons_succ, List.getElem_cons_zero])
              go_simp
              refine (XPush_any HM5.out.x zn m.body (fun X hX => by have := (HL.out.small X hX).1; omega)).mono ?_; rintro e w6 ⟨rfl, hx, hm⟩
              refine hK _ _ ⟨hm.cell hcp5 hS5.1, hm.cell hcp5 hS5.2⟩ ?_
              clear hK K hS5 hcp5
              try simp only [List.getElem_toArray, List.getElem_cons_succ, List.getElem_cons_zero, Act.put, List.setIfInBounds_toArray, List.set_cons_zero, List.set_cons_succ]
              rw [HR9.out]
              have HM6 := Lib.hid (HM5.out.xM hx hm)
              clear hx hm HM5 HMD HPE HR9
              repeat (first | (refine plan_skip rfl rfl ?_; simp only [List.getElem_toArray, List.getElem_cons_succ, List.getElem_cons_zero, Act.put, List.setIfInBounds_toArray, List.set_cons_zero, List.set_cons_succ]) | (refine plan_pass2 rfl rfl ?_; simp only [List.getElem_toArray, List.getElem_cons_succ, List.getElem_cons_zero, Act.put, List.setIfInBounds_toArray, List.set_cons_zero, List.set_cons_succ]) | (refine plan_pass3 rfl rfl ?_; simp only [List.getElem_toArray, List.getElem_cons_succ, List.getElem_cons_zero, Act.put, List.setIfInBounds_toArray, List.set_cons_zero, List.set_cons_succ]) | (refine plan_take (v := ?_) rfl rfl ?_ ?_; rotate_left; (focus (intro w0; go_simp; try with_reducible rfl)); simp only [List.getElem_toArray, List.getElem_cons_succ, List.getElem_cons_zero, Act.put, List.setIfInBounds_toArray, List.set_cons_zero, List.set_cons_succ]) | fail )
              refine plan_nil ?_
              go_wp2_with fail
              go_meet
              exact ⟨_, _, _, _, _, HM6.out, HN.out⟩
          · have hb0 : (kd == 0) = false := by simp [hk0]
            by_cases hk1 : kd = 1
            · have hb1 : (kd == 1) = true := by simp [hk1]
              clear hk1
              as_aux_lemma =>
                go_wp2_with fail
                obtain ⟨hpe, hpn⟩ := HL.out.send HSOK.out
                obtain ⟨mz, hmz⟩ : ∃ mz, mz = xs.flatMap RLife.sends := ⟨_, rfl⟩
                have HN := Lib.hid hpn
                refine (HSend_any HM4.out.e (by omega)).mono ?_; rintro e w5 ⟨v1, rfl, hv1, he, hm⟩
                rw [hpe, ← hmz] at hv1
                obtain ⟨c5, hM5, hV1⟩ : ∃ c5, HubsM w w5 p q c5 _ G xs gs ∧ Row w5 (fun k => c5 k = 1) 32 7 v1 mz.length (MsgV.vals mz) := ⟨_, HM4.out.eM he hm, hv1.monoLt (paint_born c4 _ w5 1)⟩
                have HM5 := Lib.hid hM5
                have HV1 := Lib.hid hV1
                have HMZ := Lib.hid hmz
                clear he hm hv1 hM5 hV1 hpe hpn hmz
                go_wp2_with fail
                refine (XSend_any HM5.out.x (by omega)).mono ?_; rintro e w6 ⟨v2, rfl, hv2, hx, hm⟩
                rw [← HMZ.out] at hv2
                have HV16 := Lib.hid (HV1.out.keep hm (mod_away (by decide)))
                have HV2 := Lib.hid hv2.reads
                have HM6 := Lib.hid (HM5.out.xM hx hm)
                clear hx hm hv2 HM5 HV1
                go_wp2_with fail
                refine (SameMsg_any v1 v2 mz.length mz _ rfl HV16.out.reads HV2.out).mono ?_; rintro e w7 ⟨rfl, hm⟩
                have HM7 := Lib.hid (HM6.out.still hm 9)
                clear hm HM6 HV16 HV2
                go_wp2_with fail
                go_meet
                exact ⟨_, _, _, _, _, HM7.out, HN.out⟩
            · have hb1 : (kd == 1) = false := by simp [hk1]
              by_cases hk2 : kd = 2
              · have hb2 : (kd == 2) = true := by simp [hk2]
                clear hk2
                as_aux_lemma =>
                  go_wp2_with fail
                  obtain ⟨hpe, hpn⟩ := HL.out.beat
                  obtain ⟨mz, hmz⟩ : ∃ mz, mz = xbeats xs := ⟨_, rfl⟩
                  have HN := Lib.hid hpn
                  refine (HBeat_any HM4.out.e (by omega)).mono ?_; rintro e w5 ⟨v1, rfl, hv1, hm⟩
                  rw [hpe, ← hmz] at hv1
                  have HM5 := Lib.hid (HM4.out.still hm 9)
                  have HV1 := Lib.hid hv1
                  have HMZ := Lib.hid hmz
                  clear hm hv1 hpe hpn hmz
                  go_wp2_with fail
                  refine (XBeat_any HM5.out.x (by omega)).mono ?_; rintro e w6 ⟨v2, rfl, hv2, hm⟩
                  rw [← HMZ.out] at hv2
                  have HV16 := Lib.hid (HV1.out.keep hm fun _ _ f => f)
                  have HV2 := Lib.hid hv2.reads
                  have HM6 := Lib.hid (HM5.out.still hm 9)
                  clear hm hv2 HM5 HV1
                  go_wp2_with fail
                  refine (SameMsg_any v1 v2 mz.length mz _ rfl HV16.out.reads HV2.out).mono ?_; rintro e w7 ⟨rfl, hm⟩
                  have HM7 := Lib.hid (HM6.out.still hm 9)
                  clear hm HM6 HV16 HV2
                  go_wp2_with fail
                  go_meet
                  exact ⟨_, _, _, _, _, HM7.out, HN.out⟩
              · have hb2 : (kd == 2) = false := by simp [hk2]
                by_cases hk3 : kd = 3
                · have hb3 : (kd == 3) = true := by simp [hk3]
                  clear hk3
                  as_aux_lemma =>
                    obtain ⟨mc, hmc⟩ : ∃ mc, mc = m.cells := ⟨_, rfl⟩
                    have hmc2 : m.cells = #[.int .i64 m.node, .bool m.up, .int .u32 m.epoch, .int .i64 m.kind, .int .u32 m.ack, .int .u32 m.seq, .string m.body] := rfl
                    have HMC := Lib.hid hmc2
                    have y2 : wA.cell? ⟨pa, 2, none⟩ = some (.int .i64 m.node) := cellOf HB4.out 2
                    have y3 : wA.cell? ⟨pa, 3, none⟩ = some (.bool m.up) := cellOf HB4.out 3
                    have y4 : wA.cell? ⟨pa, 4, none⟩ = some (.int .u32 m.epoch) := cellOf HB4.out 4
                    have y5 : wA.cell? ⟨pa, 5, none⟩ = some (.int .i64 m.kind) := cellOf HB4.out 5
                    have y6 : wA.cell? ⟨pa, 6, none⟩ = some (.int .u32 m.ack) := cellOf HB4.out 6
                    have y7 : wA.cell? ⟨pa, 7, none⟩ = some (.int .u32 m.seq) := cellOf HB4.out 7
                    have y8 : wA.cell? ⟨pa, 8, none⟩ = some (.string m.body) := cellOf HB4.out 8
                    have hpw : pa < wA.heap.size := lt_of_block HB4.out
                    clear hmc hmc2
                    go_wp2_with fail
                    rw [← HMC.out]
                    obtain ⟨r, hr⟩ : ∃ r, r = hubHear L G m := ⟨_, rfl⟩
                    refine (HHear_any HM4.out.e m HOK.out).mono ?_; rintro e w5 ⟨v1, v2, rfl, hv1, hv2, he, hm⟩
                    rw [← hr] at hv1 hv2 he ⊢
                    have hn1 : ¬ c4 pa = 1 := by rw [HP4.out]; decide
                    replace y2 := hm.cell hn1 y2
                    replace y3 := hm.cell hn1 y3
                    replace y4 := hm.cell hn1 y4
                    replace y5 := hm.cell hn1 y5
                    replace y6 := hm.cell hn1 y6
                    replace y7 := hm.cell hn1 y7
                    replace y8 := hm.cell hn1 y8
                    obtain ⟨c5, hM5, hV1, hV2⟩ : ∃ c5, HubsM w w5 p q c5 r.2.2.2 G xs gs ∧ Row w5 (fun k => c5 k = 1) 9 1 v1 r.2.1.length (r.2.1.map .string) ∧ Row w5 (fun k => c5 k = 1) 32 7 v2 r.2.2.1.length (MsgV.vals r.2.2.1) := ⟨_, HM4.out.eM he hm, hv1.monoLt (paint_born c4 _ w5 1), hv2.monoLt (paint_born c4 _ w5 1)⟩
                    have HM5 := Lib.hid hM5
                    have HV1 := Lib.hid hV1
                    have HV2 := Lib.hid hV2
                    have HR := Lib.hid hr
                    clear hM5 hV1 hV2 he hv1 hv2 hm hn1 hr
                    go_wp2_with fail
                    rw [← HMC.out]
                    refine (XHear_any HM5.out.x m HOK.out G HL.out.gone (by omega) (by have := HL.out.lenG; omega) j (64 * j) HL.out.small (by omega)).mono ?_; rintro e w6 ⟨v3, v4, xs2, rfl, hv3, hv4, hx, habs, hlen2, hsm2, hm⟩
                    rw [HL.out.abs, ← HR.out] at hv3 hv4 habs ⊢
                    clear y2 y3 y4 y5 y6 y7 y8
                    have HV1' := Lib.hid (HV1.out.keep hm (mod_away (by decide)))
                    have HV2' := Lib.hid (HV2.out.keep hm (mod_away (by decide)))
                    have HV3 := Lib.hid hv3
                    have HV4 := Lib.hid hv4
                    have HM6 := Lib.hid (HM5.out.xM hx hm)
                    have HN := Lib.hid (HL.out.hear habs hlen2 hsm2)
                    clear hv3 hv4 hx habs hlen2 hsm2 hm HM5 HV1 HV2 HR
                    obtain ⟨b, ss, ms, l2⟩ := r
                    go_wp2_with fail
                    refine (SameStr_any v1 v3 ss ss _ HV1'.out.reads HV3.out.reads).mono ?_; rintro e w7 ⟨rfl, hm⟩
                    rw [decide_eq_true (rfl : ss = ss)]
                    have HM7 := Lib.hid (HM6.out.still hm 9)
                    have HV27 := Lib.hid (HV2'.out.keep hm fun _ _ f => f)
                    have HV47 := Lib.hid (HV4.out.keep hm fun _ _ f => f)
                    clear hm HM6 HV1' HV2' HV3 HV4
                    go_wp2_with fail
                    refine (SameMsg_any v2 v4 ms.length ms _ rfl HV27.out.reads HV47.out.reads).mono ?_; rintro e w8 ⟨rfl, hm⟩
                    have HM8 := Lib.hid (HM7.out.still hm 9)
                    clear hm HM7 HV27 HV47
                    go_wp2_with fail
                    go_meet
                    exact ⟨_, _, _, _, _, HM8.out, HN.out⟩
                · have hb3 : (kd == 3) = false := by simp [hk3]
                  clear hk0 hk1 hk2 hk3
                  as_aux_lemma =>
                    go_wp2_with fail
                    obtain ⟨hpe, hpn⟩ := HL.out.drop HASC.out zn
                    obtain ⟨r9, hr9⟩ : ∃ r9, r9 = (hfind RLife.node xs zn).isSome := ⟨_, rfl⟩
                    rw [← hr9] at hpe
                    have HPE := Lib.hid hpe
                    have HN := Lib.hid hpn
                    have HR9 := Lib.hid hr9.symm
                    have hS : wA.drew.cell? ⟨pa, 1, none⟩ = some (.int .i64 zn) := cellOf HB4.out 1
                    have HMD := Lib.hid HM4.out.drew
                    clear hpe hpn hr9
                    refine wp_region_plan [] [(0, 0), (1, 0), (2, 1), (4, 0), (5, 0), (6, 1), (3, 2), (7, 2), (8, 0)] (fun w' : World => w'.cell? ⟨pa, 1, none⟩ = some (.int .i64 zn)) (by kernel_rfl) (by kernel_rfl) (fun d _ _ _ _ h => by cases d <;> exact h) ?_
                    repeat (first | (refine plan_skip rfl rfl ?_; simp only [List.getElem_toArray, List.getElem_cons_succ, List.getElem_cons_zero, Act.put, List.setIfInBounds_toArray, List.set_cons_zero, List.set_cons_succ]) | (refine plan_pass2 rfl rfl ?_; simp only [List.getElem_toArray, List.getElem_cons_succ, List.getElem_cons_zero, Act.put, List.setIfInBounds_toArray, List.set_cons_zero, List.set_cons_succ]) | (refine plan_pass3 rfl rfl ?_; simp only [List.getElem_toArray, List.getElem_cons_succ, List.getElem_cons_zero, Act.put, List.setIfInBounds_toArray, List.set_cons_zero, List.set_cons_succ]) | (refine plan_take (v := ?_) rfl rfl ?_ ?_; rotate_left; (focus (intro w0; go_simp; try with_reducible rfl)); simp only [List.getElem_toArray, List.getElem_cons_succ, List.getElem_cons_zero, Act.put, List.setIfInBounds_toArray, List.set_cons_zero, List.set_cons_succ]) | (refine plan_held (v := ?_) rfl rfl hS ?_ ?_; rotate_left; (focus (intro w0 hSw; (try dsimp only at hSw); go_split_ands; go_simp; try with_reducible rfl)); simp only [List.getElem_toArray, List.getElem_cons_succ, List.getElem_cons_zero, Act.put, List.setIfInBounds_toArray, List.set_cons_zero, List.set_cons_succ])  | (refine plan_skip1 rfl rfl hS ?_; simp only [List.getElem_toArray, List.getElem_cons_succ, List.getElem_cons_zero, Act.put, List.setIfInBounds_toArray, List.set_cons_zero, List.set_cons_succ]))
                    (refine plan_do rfl rfl fun K hK => ?_; try simp only [List.getElem_toArray, List.getElem_cons_succ, List.getElem_cons_zero])
                    go_simp
                    refine (HDrop_any HMD.out.e zn).mono ?_; rintro e w5 ⟨rfl, he, hm⟩
                    have hpw : pa < wA.drew.heap.size := lt_of_block HB4.out
                    have hn1 : ¬ c4 pa = 1 := by rw [HP4.out]; decide
                    have hS5 : w5.cell? ⟨pa, 1, none⟩ = some (.int .i64 zn) := hm.cell hn1 hS
                    refine hK _ _ hS5 ?_
                    clear hK K hS
                    try simp only [List.getElem_toArray, List.getElem_cons_succ, List.getElem_cons_zero, Act.put, List.setIfInBounds_toArray, List.set_cons_zero, List.set_cons_succ]
                    rw [HPE.out]
                    have HM5 := Lib.hid (HMD.out.eM (he.mono fun k hk _ => .inl hk) hm)
                    have hcp5 : ¬ paint c4 wA.drew w5 1 pa = 2 := by rw [paint_away HMD.out.col (by decide) 1 pa HP4.out (Nat.lt_of_lt_of_le hpw hm.size)]; decide
                    clear he hm hn1
                    repeat (first | (refine plan_skip rfl rfl ?_; simp only [List.getElem_toArray, List.getElem_cons_succ, List.getElem_cons_zero, Act.put, List.setIfInBounds_toArray, List.set_cons_zero, List.set_cons_succ]) | (refine plan_pass2 rfl rfl ?_; simp only [List.getElem_toArray, List.getElem_cons_succ, List.getElem_cons_zero, Act.put, List.setIfInBounds_toArray, List.set_cons_zero, List.set_cons_succ]) | (refine plan_pass3 rfl rfl ?_; simp only [List.getElem_toArray, List.getElem_cons_succ, List.getElem_cons_zero, Act.put, List.setIfInBounds_toArray, List.set_cons_zero, List.set_cons_succ]) | (refine plan_take (v := ?_) rfl rfl ?_ ?_; rotate_left; (focus (intro w0; go_simp; try with_reducible rfl)); simp only [List.getElem_toArray, List.getElem_cons_succ, List.getElem_cons_zero, Act.put, List.setIfInBounds_toArray, List.set_cons_zero, List.set_cons_succ]) | (refine plan_held (v := ?_) rfl rfl hS5 ?_ ?_; rotate_left; (focus (intro w0 hSw; (try dsimp only at hSw); go_split_ands; go_simp; try with_reducible rfl)); simp only [List.getElem_toArray, List.getElem_cons_succ, List.getElem_cons_zero, Act.put, List.setIfInBounds_toArray, List.set_cons_zero, List.set_cons_succ])  | (refine plan_skip1 rfl rfl hS5 ?_; simp only [List.getElem_toArray, List.getElem_cons_succ, List.getElem_cons_zero, Act.put, List.setIfInBounds_toArray, List.set_cons_zero, List.set_cons_succ]))
                    (refine plan_do rfl rfl fun K hK => ?_; try simp only [List.getElem_toArray, List.getElem_cons_succ, List.getElem_cons_zero])
                    go_simp
                    refine (XDrop_any HM5.out.x zn (by omega) (by have := HL.out.lenG; omega)).mono ?_; rintro e w6 ⟨rfl, hx, hm⟩
                    refine hK _ _ (hm.cell hcp5 hS5) ?_
                    clear hK K hS5 hcp5
                    try simp only [List.getElem_toArray, List.getElem_cons_succ, List.getElem_cons_zero, Act.put, List.setIfInBounds_toArray, List.set_cons_zero, List.set_cons_succ]
                    rw [HR9.out]
                    have HM6 := Lib.hid (HM5.out.xM hx hm)
                    clear hx hm HM5 HMD HPE HR9
                    repeat (first | (refine plan_skip rfl rfl ?_; simp only [List.getElem_toArray, List.getElem_cons_succ, List.getElem_cons_zero, Act.put, List.setIfInBounds_toArray, List.set_cons_zero, List.set_cons_succ]) | (refine plan_pass2 rfl rfl ?_; simp only [List.getElem_toArray, List.getElem_cons_succ, List.getElem_cons_zero, Act.put, List.setIfInBounds_toArray, List.set_cons_zero, List.set_cons_succ]) | (refine plan_pass3 rfl rfl ?_; simp only [List.getElem_toArray, List.getElem_cons_succ, List.getElem_cons_zero, Act.put, List.setIfInBounds_toArray, List.set_cons_zero, List.set_cons_succ]) | (refine plan_take (v := ?_) rfl rfl ?_ ?_; rotate_left; (focus (intro w0; go_simp; try with_reducible rfl)); simp only [List.getElem_toArray, List.getElem_cons_succ, List.getElem_cons_zero, Act.put, List.setIfInBounds_toArray, List.set_cons_zero, List.set_cons_succ]) | fail )
                    refine plan_nil ?_
                    go_wp2_with fail
                    go_meet
                    exact ⟨_, _, _, _, _, HM6.out, HN.out⟩
        case rest =>
          obtain ⟨c5, L2, G2, xs2, gs2, hM2, hN2⟩ := hcut
          have HM2 := Lib.hid hM2
          have HN2 := Lib.hid hN2
          have HLL : Hid (L2.length = xs2.length ∧ xs2.length ≤ 40) := Lib.hid ⟨by rw [← hN2.abs, List.length_map], by have := hN2.len; omega⟩
          obtain ⟨lv, gv, pbo, cc, hX, _⟩ := hM2.x
          have HX := Lib.hid hX
          have HFX := Lib.hid (XFind_any hX ask)
          clear hM2 hN2 hX HM4 HB4 HP4 HSOK HASC HOK hxl hll
          go_wp2_with fail
          refine HFX.out.mono ?_; rintro e w4 ⟨i, rfl, hp, rfl⟩
          rcases hp with ⟨rfl, hnf⟩ | ⟨i, X, rfl, hi, hXn, hnf⟩
          · have HFL : Hid (hfind Life.node L2 ask = none) := Lib.hid (by rw [HN2.out.find, hnf]; rfl)
            clear hnf
            go_wp2_with fail
            refine (HEpoch_any HM2.out.e ask).mono ?_; rintro e w5 ⟨rfl, rfl⟩
            rw [HFL.out]
            have HMb := Lib.hid HM2.out
            go_wp2_with fail
            refine (HOpen_any HM2.out.e ask).mono ?_; rintro e w6 ⟨rfl, rfl⟩
            rw [HFL.out]
            go_wp2_with fail
            refine (HNodes_any HMb.out.e (by have := HLL.out; omega)).mono ?_; rintro e w7 ⟨v1, rfl, hv1, hm7⟩
            rw [HN2.out.nodes, HLL.out.1] at hv1
            have HM7 := Lib.hid (HMb.out.still hm7 9)
            have HV1 := Lib.hid hv1
            clear hv1 hm7
            go_wp2_with fail
            refine (XNodes_any HM7.out.x (by have := HLL.out; omega)).mono ?_; rintro e w8 ⟨v2, rfl, hv2, hm8⟩
            have HM8 := Lib.hid (HM7.out.still hm8 9)
            have HV18 := Lib.hid (HV1.out.keep hm8 fun _ _ f => f)
            have HV2 := Lib.hid hv2
            clear hv2 hm8 HM7 HV1
            go_wp2_with fail
            refine (SameInt_any v1 v2 xs2.length (xs2.map RLife.node) _ (by simp) HV18.out.reads HV2.out.reads).mono ?_; rintro e w9 ⟨rfl, hm9⟩
            have HM9 := Lib.hid (HM8.out.still hm9 9)
            clear hm9 HM8 HV18 HV2
            go_wp2_with fail
            go_roundw
            case rel => exact ⟨j + 1, _, _, _, _, _, by omega, by omega, by go_num, HM9.out, HN2.out⟩
            case measure => simp [intOf]; omega
          · have HI := Lib.hid hi
            have HFL : Hid (hfind Life.node L2 ask = some X.abs) := Lib.hid (by rw [HN2.out.find, hnf]; rfl)
            have HXN := Lib.hid hXn
            obtain ⟨adx, cx, hlvx, hncx, hcmx, d0, hgx⟩ := HX.out.form
            obtain ⟨nx, hnx⟩ : ∃ nx, nx = xs2.length := ⟨_, rfl⟩
            have hilx : i < xs2.length := (List.getElem?_eq_some_iff.1 hi).1
            rw [← hnx] at hlvx hncx hgx hilx
            obtain ⟨g2, hge, _, _, hcellx⟩ := hgx (by omega)
            subst hge
            rw [hlvx] at d0
            have HNX := Lib.hid hnx
            have HXA := Lib.hid (HX.out.life hnf).2
            have hii : (i : Int) < (nx : Int) := by omega
            have hi0 : decide ((0 : Int) ≤ (i : Int)) = true := decide_eq_true (by omega)
            have hi1 : (0 : Int) ≤ (i : Int) := by omega
            have hS : w4.drew.cell? ⟨q, 0, none⟩ = some (.slice (some ⟨g2, 0, none⟩) nx cx) ∧ w4.drew.cell? ⟨g2, i, none⟩ = some (.pointer (some ⟨pbo X.node, 0, none⟩)) ∧ w4.drew.cell? ⟨pbo X.node, 2, none⟩ = some (.int .u32 X.epoch) := ⟨d0, hcellx i X hi, HX.out.epochAt hi⟩
            have HOP : Hid ((X.abs.out.bodies.length : Int) = ((X.s.l.length - X.s.done : Nat) : Int) ∧ X.abs.epoch = X.epoch) := Lib.hid (by unfold RLife.abs RefS.snd; simp)
            unfold maxLen at hcmx
            clear hi hXn hnf hnx hgx hcellx d0 hlvx HI
            go_wp2_with fail
            refine wp_region_plan [] [(0, 0), (1, 0), (2, 0), (3, 1), (4, 0), (5, 0), (6, 1), (8, 0), (9, 0), (10, 0), (11, 1), (12, 0), (13, 0), (14, 1), (15, 0), (16, 0), (17, 1), (7, 2), (18, 0), (19, 0)] (fun w' : World => w'.cell? ⟨q, 0, none⟩ = some (.slice (some ⟨g2, 0, none⟩) nx cx) ∧ w'.cell? ⟨g2, i, none⟩ = some (.pointer (some ⟨pbo X.node, 0, none⟩)) ∧ w'.cell? ⟨pbo X.node, 2, none⟩ = some (.int .u32 X.epoch)) (by kernel_rfl) (by kernel_rfl) (fun d _ _ _ _ h => by cases d <;> exact h) ?_
            repeat (first | (refine plan_skip rfl rfl ?_; simp only [List.getElem_toArray, List.getElem_cons_succ, List.getElem_cons_zero, Act.put, List.setIfInBounds_toArray, List.set_cons_zero, List.set_cons_succ]) | (refine plan_pass2 rfl rfl ?_; simp only [List.getElem_toArray, List.getElem_cons_succ, List.getElem_cons_zero, Act.put, List.setIfInBounds_toArray, List.set_cons_zero, List.set_cons_succ]) | (refine plan_pass3 rfl rfl ?_; simp only [List.getElem_toArray, List.getElem_cons_succ, List.getElem_cons_zero, Act.put, List.setIfInBounds_toArray, List.set_cons_zero, List.set_cons_succ]) | (refine plan_take (v := ?_) rfl rfl ?_ ?_; rotate_left; (focus (intro w0; go_simp; try with_reducible rfl)); simp only [List.getElem_toArray, List.getElem_cons_succ, List.getElem_cons_zero, Act.put, List.setIfInBounds_toArray, List.set_cons_zero, List.set_cons_succ]) | (refine plan_held (v := ?_) rfl rfl hS ?_ ?_; rotate_left; (focus (intro w0 hSw; (try dsimp only at hSw); go_split_ands; go_simp; try with_reducible rfl)); simp only [List.getElem_toArray, List.getElem_cons_succ, List.getElem_cons_zero, Act.put, List.setIfInBounds_toArray, List.set_cons_zero, List.set_cons_succ])  | (refine plan_skip1 rfl rfl hS ?_; simp only [List.getElem_toArray, List.getElem_cons_succ, List.getElem_cons_zero, Act.put, List.setIfInBounds_toArray, List.set_cons_zero, List.set_cons_succ]))
            (refine plan_do rfl rfl fun K hK => ?_; try simp only [List.getElem_toArray, List.getElem_cons_succ, List.getElem_cons_zero])
            go_simp
            have hXN := HXN.out
            rw [hXN] at hS ⊢
            refine (ROpen_any (pbo ask) _ X _ HXA.out.drew).mono ?_; rintro e w5 ⟨rfl, hm5⟩
            refine hK _ _ (by rw [hXN]; exact ⟨hm5.cell (fun f => f) hS.1, hm5.cell (fun f => f) hS.2.1, hm5.cell (fun f => f) hS.2.2⟩) ?_
            have hS5 : w5.cell? ⟨q, 0, none⟩ = some (.slice (some ⟨g2, 0, none⟩) nx cx) ∧ w5.cell? ⟨g2, i, none⟩ = some (.pointer (some ⟨pbo X.node, 0, none⟩)) ∧ w5.cell? ⟨pbo X.node, 2, none⟩ = some (.int .u32 X.epoch) := by rw [hXN]; exact ⟨hm5.cell (fun f => f) hS.1, hm5.cell (fun f => f) hS.2.1, hm5.cell (fun f => f) hS.2.2⟩
            clear hK K hS
            try simp only [List.getElem_toArray, List.getElem_cons_succ, List.getElem_cons_zero, Act.put, List.setIfInBounds_toArray, List.set_cons_zero, List.set_cons_succ]
            have HMb := Lib.hid (HM2.out.drew.still hm5 9)
            clear hm5 hXN
            repeat (first | (refine plan_skip rfl rfl ?_; simp only [List.getElem_toArray, List.getElem_cons_succ, List.getElem_cons_zero, Act.put, List.setIfInBounds_toArray, List.set_cons_zero, List.set_cons_succ]) | (refine plan_pass2 rfl rfl ?_; simp only [List.getElem_toArray, List.getElem_cons_succ, List.getElem_cons_zero, Act.put, List.setIfInBounds_toArray, List.set_cons_zero, List.set_cons_succ]) | (refine plan_pass3 rfl rfl ?_; simp only [List.getElem_toArray, List.getElem_cons_succ, List.getElem_cons_zero, Act.put, List.setIfInBounds_toArray, List.set_cons_zero, List.set_cons_succ]) | (refine plan_take (v := ?_) rfl rfl ?_ ?_; rotate_left; (focus (intro w0; go_simp; try with_reducible rfl)); simp only [List.getElem_toArray, List.getElem_cons_succ, List.getElem_cons_zero, Act.put, List.setIfInBounds_toArray, List.set_cons_zero, List.set_cons_succ]) | (refine plan_held (v := ?_) rfl rfl hS5 ?_ ?_; rotate_left; (focus (intro w0 hSw; (try dsimp only at hSw); go_split_ands; go_simp; try with_reducible rfl)); simp only [List.getElem_toArray, List.getElem_cons_succ, List.getElem_cons_zero, Act.put, List.setIfInBounds_toArray, List.set_cons_zero, List.set_cons_succ])  | (refine plan_skip1 rfl rfl hS5 ?_; simp only [List.getElem_toArray, List.getElem_cons_succ, List.getElem_cons_zero, Act.put, List.setIfInBounds_toArray, List.set_cons_zero, List.set_cons_succ]))
            refine plan_nil ?_
            clear hS5
            go_wp2_with fail
            refine (HEpoch_any HMb.out.e ask).mono ?_; rintro e w6 ⟨rfl, rfl⟩
            rw [HFL.out]
            try simp only [Option.elim_some, Option.isSome_some]
            rw [HOP.out.2]
            go_wp2_with fail
            refine (HOpen_any HMb.out.e ask).mono ?_; rintro e w7 ⟨rfl, rfl⟩
            rw [HFL.out]
            try simp only [Option.elim_some]
            rw [HOP.out.1]
            go_wp2_with fail
            refine (HNodes_any HMb.out.e (by have := HLL.out; omega)).mono ?_; rintro e w7 ⟨v1, rfl, hv1, hm7⟩
            rw [HN2.out.nodes, HLL.out.1] at hv1
            have HM7 := Lib.hid (HMb.out.still hm7 9)
            have HV1 := Lib.hid hv1
            clear hv1 hm7
            go_wp2_with fail
            refine (XNodes_any HM7.out.x (by have := HLL.out; omega)).mono ?_; rintro e w8 ⟨v2, rfl, hv2, hm8⟩
            have HM8 := Lib.hid (HM7.out.still hm8 9)
            have HV18 := Lib.hid (HV1.out.keep hm8 fun _ _ f => f)
            have HV2 := Lib.hid hv2
            clear hv2 hm8 HM7 HV1
            go_wp2_with fail
            refine (SameInt_any v1 v2 xs2.length (xs2.map RLife.node) _ (by simp) HV18.out.reads HV2.out.reads).mono ?_; rintro e w9 ⟨rfl, hm9⟩
            have HM9 := Lib.hid (HM8.out.still hm9 9)
            clear hm9 HM8 HV18 HV2
            go_wp2_with fail
            go_roundw
            case rel => exact ⟨j + 1, _, _, _, _, _, by omega, by omega, by go_num, HM9.out, HN2.out⟩
            case measure => simp [intOf]; omega
      · have hki : (j : Int) < (n : Int) := by omega
        have hki4 : ¬ (j : Int) < 40 := by omega
        go_wp2_with fail
        refine (lives29_any _).mono ?_; rintro e w9 ⟨rfl, hm9⟩
        go_wp2
        go_ret
        exact ⟨rfl, HM.out.col.mod.trans hm9 fun _ f => f.elim⟩
    · have hki : ¬ (j : Int) < (n : Int) := by omega
      go_wp2_with fail
      refine (lives29_any _).mono ?_; rintro e w9 ⟨rfl, hm9⟩
      go_wp2
      go_ret
      exact ⟨rfl, HM.out.col.mod.trans hm9 fun _ f => f.elim⟩
end Go.Proofs.YtidkapanpieflaaGreat
