/- (*link.Hub).Send: contract. -/
import Derived.Test.YtidkapanpieflaaHubN
namespace Go.Proofs.Ytidkapanpieflaa
open Go.RowKit
set_option linter.unusedVariables false
set_option linter.unusedSimpArgs false
/-- what a walk over things of a hub has changed: the hub's blocks, and new ones -/
structure Bag (w0 wr : World) (f : Nat → Prop) (c : Clr) : Prop where
  mod : Mod f w0 wr
  cl : ∀ k i, c k = .inr i → 3 ≤ i → i ≠ 9 → w0.heap.size ≤ k
  cf : ∀ k, c k ≠ .inr 9 → f k ∨ w0.heap.size ≤ k
theorem Bag.step {w0 wr w' : World} {f F : Nat → Prop} {c : Clr} (h : Bag w0 wr f c) (hm : Mod F wr w') (hF : ∀ k, F k → c k ≠ .inr 9) (t : Int ⊕ Nat) : Bag w0 w' f (dyed c wr t) := by
  have hs := h.mod.size
  refine ⟨h.mod.trans hm fun k hk => h.cf k (hF k hk), fun k i hk h3 h9 => ?_, fun k hk => ?_⟩
  · by_cases hl : wr.heap.size ≤ k
    · omega
    · rw [dyed_old (by omega)] at hk; exact h.cl k i hk h3 h9
  · by_cases hl : wr.heap.size ≤ k
    · exact .inr (by omega)
    · rw [dyed_old (by omega)] at hk; exact h.cf k hk
/-- only the colours of the hub itself, and 9 -/
def scrub (c : Clr) : Clr := fun k => match c k with
  | .inl n => .inl n
  | .inr i => if i < 3 then .inr i else .inr 9
theorem scrub_keep {c : Clr} {k : Nat} (h : (∃ n, c k = .inl n) ∨ c k = .inr 0 ∨ c k = .inr 1 ∨ c k = .inr 2) : scrub c k = c k := by
  unfold scrub
  rcases h with ⟨n, h⟩ | h | h | h <;> rw [h] <;> rfl
theorem scrub_no {c : Clr} {k : Nat} (h : scrub c k ≠ .inr 9) : c k ≠ .inr 9 := by
  intro e
  apply h
  unfold scrub
  rw [e]; rfl
theorem scrub_low {c : Clr} {k i : Nat} (h : scrub c k = .inr i) (h3 : 3 ≤ i) : i = 9 := by
  unfold scrub at h
  split at h
  · cases h
  · split at h
    · cases h; omega
    · cases h; rfl
theorem HubIn.recol2 {w : World} {hb km gm : Nat} {l : List Life} {G : Int → Option Int} {vbo : Int → Nat} {c : Clr} (h : HubIn w hb l G km gm vbo c) {c' : Clr} (hc : ∀ k, ((∃ n, c k = .inl n) ∨ c k = .inr 0 ∨ c k = .inr 1 ∨ c k = .inr 2) → c' k = c k) : HubIn w hb l G km gm vbo c' :=
  ⟨h.top, h.kn, h.gn, h.fam.recol lifeKept fun k n hl e => by rw [hc k (.inl ⟨n, e⟩)]; exact e, h.asc, by rw [hc _ (.inr (.inl h.f0))]; exact h.f0, by rw [hc _ (.inr (.inr (.inl h.f1)))]; exact h.f1, by rw [hc _ (.inr (.inr (.inr h.f2)))]; exact h.f2, h.ge, h.rg⟩
theorem HubAt.open {w : World} {f : Nat → Prop} {hb : Nat} {l : List Life} {G : Int → Option Int} (h : HubAt w f hb l G) : ∃ km gm vbo c, HubIn w hb l G km gm vbo c ∧ Bag w w f c := by
  obtain ⟨km, gm, vbo, c, h1, h2⟩ := h
  refine ⟨km, gm, vbo, scrub c, h1.recol2 fun k hk => scrub_keep hk, Mod.refl _ _, fun k i hk h3 h9 => absurd (scrub_low hk h3) h9, fun k hk => .inl (h2 k (scrub_no hk))⟩
theorem HubIn.shut {w w' : World} {f : Nat → Prop} {hb km gm : Nat} {l : List Life} {G : Int → Option Int} {vbo : Int → Nat} {c : Clr} (h : HubIn w' hb l G km gm vbo c) (hb2 : Bag w w' f c) : HubAt w' (fun k => f k ∨ w.heap.size ≤ k) hb l G ∧ Mod f w w' :=
  ⟨⟨km, gm, vbo, c, h, hb2.cf⟩, hb2.mod⟩
theorem inr_ne {i j : Nat} (h : i ≠ j) {c : Clr} {k : Nat} (hk : c k = .inr i) : ¬ c k = .inr j := fun e => by rw [hk] at e; cases e; exact h rfl
theorem inl_ne {n : Int} {j : Nat} {c : Clr} {k : Nat} (hk : c k = .inl n) : ¬ c k = .inr j := fun e => by rw [hk] at e; cases e
theorem hub_ne {j : Nat} (h : 3 ≤ j) {c : Clr} {k : Nat} (hk : (∃ n, c k = .inl n) ∨ c k = .inr 0 ∨ c k = .inr 1 ∨ c k = .inr 2) : ¬ c k = .inr j := by
  rcases hk with ⟨n, hk⟩ | hk | hk | hk
  · exact inl_ne hk
  · exact inr_ne (by omega) hk
  · exact inr_ne (by omega) hk
  · exact inr_ne (by omega) hk
def Life.sent (L : Life) : Life := { L with out := L.out.send }
def Life.sends (L : Life) : List MsgV := L.out.news.map L.body
theorem LifeAt.subS {w : World} {f : Nat → Prop} {p : Nat} {L : Life} (h : LifeAt w p f L) : ∃ po fs, w.cell? ⟨p, 3, none⟩ = some (.pointer (some ⟨po, 0, none⟩)) ∧ SndAt w po fs L.out ∧ ¬ fs p ∧ (∀ k, fs k → f k) ∧ L.out.news.length ≤ 64 ∧ f p ∧
    ∀ w' : World, SndAt w' po fs L.out.send → Mod fs w w' → LifeAt w' p f L.sent := by
  obtain ⟨h1, h2, po, pi, fs, fr, h3, h4, h5, h6, h7⟩ := h
  have hnl : L.out.news.length ≤ 64 := by have := h4.1.s2; have := h4.1.w1; simp [Snd.news, Snd.pkts]; omega
  exact ⟨po, fs, cellOf h3 3, h4, fun h => (h6 p h).2.1 rfl, fun k hk => (h6 k hk).1, hnl, h2, fun w' a m => ⟨h1, h2, po, pi, fs, fr, m.keep h3 fun h => (h6 p h).2.1 rfl, a, h5.keep m fun k h1 h2 => (h6 k h2).2.2 h1, h6, h7⟩⟩
theorem flat_len {α : Type} (g : α → List MsgV) (b : Nat) : ∀ l : List α, (∀ x ∈ l, (g x).length ≤ b) → (l.flatMap g).length ≤ b * l.length
  | [], _ => by simp
  | x :: l, h => by
    have h1 := h x List.mem_cons_self
    have h2 := flat_len g b l fun y hy => h y (List.mem_cons_of_mem _ hy)
    rw [List.flatMap_cons, List.length_append, List.length_cons]
    have : b * (l.length + 1) = b * l.length + b := by rw [Nat.mul_add, Nat.mul_one]
    omega
structure SendI (w wr : World) (f : Nat → Prop) (hb : Nat) (l : List Life) (G : Int → Option Int) (km gm : Nat) (vbo : Int → Nat) (c : Clr) (nv out : Value) (k : Nat) (ms : List MsgV) : Prop where
  hub : HubIn wr hb ((l.take k).map Life.sent ++ l.drop k) G km gm vbo c
  bag : Bag w wr f c
  nodes : Row wr (fun k => c k = .inr 3) 3 1 nv l.length ((l.map Life.node).map (Value.int .i64))
  out : Row wr (fun k => c k = .inr 4) 65 7 out ms.length (MsgV.vals ms)
  len : ms.length ≤ 64 * k
  eq : ms = (l.take k).flatMap Life.sends
set_option maxRecDepth 100000 in
set_option maxHeartbeats 4000000 in
theorem HSend_own {w : World} {f : Nat → Prop} {hb : Nat} {l : List Life} {G : Int → Option Int} (h : HubAt w f hb l G) (hl : l.length ≤ 1000) :
    Calls Try.prog 56 #[.pointer (some ⟨hb, 0, none⟩)] w fun e w' => ∃ v, e = .returned v ∧ Row w' (fun k => w.heap.size ≤ k) 65 7 v (l.flatMap Life.sends).length (MsgV.vals (l.flatMap Life.sends)) ∧ HubAt w' (fun k => (f k ∨ w.heap.size ≤ k) ∧ ¬ v.ownBlock = some k) hb (l.map Life.sent) G ∧ Mod f w w' := by
  obtain ⟨km, gm, vbo, c, h, hbag⟩ := h.open
  have HN := Lib.hid (hnodes_any h hl)
  have HH := Lib.hid h
  have HB := Lib.hid hbag
  clear h hbag
  obtain ⟨mz, hmz⟩ : ∃ mz, mz = l.flatMap Life.sends := ⟨_, rfl⟩
  rw [← hmz]
  have HMZ := Lib.hid hmz
  clear hmz
  go_enter Try.func56, Try.ntmps56
  go_wp2_with fail
  refine HN.out.mono ?_; rintro e w1 ⟨nv, rfl, hr, hm⟩
  obtain ⟨ad, cap, rfl, hnc, hcm, _⟩ := hr.form
  have hI : SendI w w1 f hb l G km gm vbo (dyed c w (.inr 3)) (.slice ad l.length cap) (.slice none 0 0) 0 [] := ⟨by simpa using HH.out.grow hm (fun _ _ f => f) (.inr 3), HB.out.step hm (fun _ f => f.elim) _, hr.mono fun k hk => dyed_new hk, Row.nil w1 _ _ _, by simp, by simp⟩
  obtain ⟨n, hnn⟩ : ∃ n, n = l.length := ⟨_, rfl⟩
  rw [← hnn] at hI hl hnc ⊢
  have HI0 := Lib.hid hI
  have HNN := Lib.hid hnn
  have hn63 : n ≤ 9223372036854775807 := by omega
  clear hr hm hI hnn HN HH HB
  go_wp2_with fail
  go_loopw [3, 11] (fun out i wr => ∃ k : Nat, k ≤ n ∧ i = .int .i64 k ∧ ∃ c ms, SendI w wr f hb l G km gm vbo c (.slice ad n cap) out k ms) (fun _ i _ => n - (intOf i).toNat)
  case atStart => exact ⟨0, Nat.zero_le _, rfl, _, _, HI0.out⟩
  case round =>
    obtain ⟨k, hk, rfl, c, ms, hI⟩ := hrel
    have HI := Lib.hid hI
    clear hI HI0
    by_cases hlt : k < n
    · have hki : (k : Int) < (n : Int) := by omega
      have hkl : k < l.length := by rw [← HNN.out]; exact hlt
      obtain ⟨L, hLk⟩ : ∃ L, L = l[k]'hkl := ⟨_, rfl⟩
      have hsp : l = l.take k ++ L :: l.drop (k + 1) := by rw [hLk, ← List.drop_eq_getElem_cons, List.take_append_drop]
      have hdk : l.drop k = L :: l.drop (k + 1) := by rw [hLk]; exact List.drop_eq_getElem_cons hkl
      have htk : l.take (k + 1) = l.take k ++ [L] := by rw [List.take_add_one, List.getElem?_eq_getElem hkl, hLk]; rfl
      have hnd := HI.out.nodes
      rw [← HNN.out] at hnd
      obtain ⟨ad2, cap2, e1, _, _, hcell⟩ := hnd.form
      injection e1 with e2 e3 e4
      subst e2; subst e4
      obtain ⟨g, hge, hgc, hgl, hcc⟩ := hcell (by omega)
      subst hge
      have x0 : wr.cell? ⟨g, k, none⟩ = some (.int .i64 L.node) := hcc k _ (by simp [hLk, hkl])
      have hfi : hfind Life.node ((l.take k).map Life.sent ++ l.drop k) L.node = some L := hfind_of HI.out.hub.asc (by rw [hdk]; simp)
      obtain ⟨_, hLA⟩ := HI.out.hub.life hfi
      obtain ⟨po, fs, d3, hs, hnp, hfs, hnl, hfp, hset⟩ := hLA.subS
      have c0 := HI.out.hub.top.cell (j := 0) rfl
      have hkm := HI.out.hub.kn
      have HKV : Hid ((KV vbo ((l.take k).map Life.sent ++ l.drop k) L.node).getD (.pointer none) = .pointer (some ⟨vbo L.node, 0, none⟩)) := Lib.hid (by unfold KV ptrV; rw [hfi]; rfl)
      have hS : wr.drew.cell? ⟨hb, 0, none⟩ = some (.map (some km)) ∧ KM wr.drew km (KV vbo ((l.take k).map Life.sent ++ l.drop k)) ∧ wr.drew.cell? ⟨vbo L.node, 3, none⟩ = some (.pointer (some ⟨po, 0, none⟩)) := ⟨c0, hkm.keep (Mod.refl (fun _ => False) _).drew fun f => f, d3⟩
      have HS : Hid (SndAt wr.drew po fs L.out) := Lib.hid hs
      have HFI := Lib.hid hfi
      have HSET := Lib.hid hset
      have HFS := Lib.hid hfs
      have HNP := Lib.hid hnp
      have HSP := Lib.hid hsp
      have HDK := Lib.hid hdk
      have HTK := Lib.hid htk
      have hfpw : c (vbo L.node) = .inl L.node := hfp
      have HFP := Lib.hid hfpw
      clear hcc hnd hcell hLk hkl hsp hdk htk hfi hLA d3 hs hset c0 hkm hfs hnp hfp hfpw
      go_wp2_with fail
      refine wp_region_plan [] [(0, 0), (1, 0), (2, 0), (3, 0), (4, 1), (5, 0), (6, 1), (7, 0), (8, 0), (9, 0), (10, 1), (11, 0), (12, 1), (13, 0), (14, 0), (15, 1), (16, 2), (17, 2), (18, 2), (19, 0)] (fun w' : World => w'.cell? ⟨hb, 0, none⟩ = some (.map (some km)) ∧ KM w' km (KV vbo ((l.take k).map Life.sent ++ l.drop k)) ∧ w'.cell? ⟨vbo L.node, 3, none⟩ = some (.pointer (some ⟨po, 0, none⟩))) (by kernel_rfl) (by kernel_rfl) (fun d _ _ _ _ h => by cases d <;> exact h) ?_
      repeat (first | (refine plan_skip rfl rfl ?_; simp only [List.getElem_toArray, List.getElem_cons_succ, List.getElem_cons_zero, Act.put, List.setIfInBounds_toArray, List.set_cons_zero, List.set_cons_succ]) | (refine plan_pass2 rfl rfl ?_; simp only [List.getElem_toArray, List.getElem_cons_succ, List.getElem_cons_zero, Act.put, List.setIfInBounds_toArray, List.set_cons_zero, List.set_cons_succ]) | (refine plan_pass3 rfl rfl ?_; simp only [List.getElem_toArray, List.getElem_cons_succ, List.getElem_cons_zero, Act.put, List.setIfInBounds_toArray, List.set_cons_zero, List.set_cons_succ]) | (refine plan_take (v := ?_) rfl rfl ?_ ?_; rotate_left; (focus (intro w0; go_simp; try with_reducible rfl)); simp only [List.getElem_toArray, List.getElem_cons_succ, List.getElem_cons_zero, Act.put, List.setIfInBounds_toArray, List.set_cons_zero, List.set_cons_succ]) | (refine plan_held (v := ?_) rfl rfl hS ?_ ?_; rotate_left; (focus (intro w0 hSw; (try dsimp only at hSw); go_split_ands; go_simp; try with_reducible rfl)); simp only [List.getElem_toArray, List.getElem_cons_succ, List.getElem_cons_zero, Act.put, List.setIfInBounds_toArray, List.set_cons_zero, List.set_cons_succ])  | (refine plan_skip1 rfl rfl hS ?_; simp only [List.getElem_toArray, List.getElem_cons_succ, List.getElem_cons_zero, Act.put, List.setIfInBounds_toArray, List.set_cons_zero, List.set_cons_succ]))
      (refine plan_held (v := .pointer (some ⟨vbo L.node, 0, none⟩)) rfl rfl hS (fun w0 h0 => by rw [h0.2.1.exec_lookup (P := Try.prog) Try.underlying112 Try.underlying3 zeroLife rfl rfl rfl]; simp only [Bool.false_eq_true, if_false]; rw [HKV.out]) ?_; try simp only [List.getElem_toArray, List.getElem_cons_succ, List.getElem_cons_zero, Act.put, List.setIfInBounds_toArray, List.set_cons_zero, List.set_cons_succ])
      repeat (first | (refine plan_skip rfl rfl ?_; simp only [List.getElem_toArray, List.getElem_cons_succ, List.getElem_cons_zero, Act.put, List.setIfInBounds_toArray, List.set_cons_zero, List.set_cons_succ]) | (refine plan_pass2 rfl rfl ?_; simp only [List.getElem_toArray, List.getElem_cons_succ, List.getElem_cons_zero, Act.put, List.setIfInBounds_toArray, List.set_cons_zero, List.set_cons_succ]) | (refine plan_pass3 rfl rfl ?_; simp only [List.getElem_toArray, List.getElem_cons_succ, List.getElem_cons_zero, Act.put, List.setIfInBounds_toArray, List.set_cons_zero, List.set_cons_succ]) | (refine plan_take (v := ?_) rfl rfl ?_ ?_; rotate_left; (focus (intro w0; go_simp; try with_reducible rfl)); simp only [List.getElem_toArray, List.getElem_cons_succ, List.getElem_cons_zero, Act.put, List.setIfInBounds_toArray, List.set_cons_zero, List.set_cons_succ]) | (refine plan_held (v := ?_) rfl rfl hS ?_ ?_; rotate_left; (focus (intro w0 hSw; (try dsimp only at hSw); go_split_ands; go_simp; try with_reducible rfl)); simp only [List.getElem_toArray, List.getElem_cons_succ, List.getElem_cons_zero, Act.put, List.setIfInBounds_toArray, List.set_cons_zero, List.set_cons_succ])  | (refine plan_skip1 rfl rfl hS ?_; simp only [List.getElem_toArray, List.getElem_cons_succ, List.getElem_cons_zero, Act.put, List.setIfInBounds_toArray, List.set_cons_zero, List.set_cons_succ]))
      (refine plan_held (v := .pointer (some ⟨vbo L.node, 0, none⟩)) rfl rfl hS (fun w0 h0 => by rw [h0.2.1.exec_lookup (P := Try.prog) Try.underlying112 Try.underlying3 zeroLife rfl rfl rfl]; simp only [Bool.false_eq_true, if_false]; rw [HKV.out]) ?_; try simp only [List.getElem_toArray, List.getElem_cons_succ, List.getElem_cons_zero, Act.put, List.setIfInBounds_toArray, List.set_cons_zero, List.set_cons_succ])
      repeat (first | (refine plan_skip rfl rfl ?_; simp only [List.getElem_toArray, List.getElem_cons_succ, List.getElem_cons_zero, Act.put, List.setIfInBounds_toArray, List.set_cons_zero, List.set_cons_succ]) | (refine plan_pass2 rfl rfl ?_; simp only [List.getElem_toArray, List.getElem_cons_succ, List.getElem_cons_zero, Act.put, List.setIfInBounds_toArray, List.set_cons_zero, List.set_cons_succ]) | (refine plan_pass3 rfl rfl ?_; simp only [List.getElem_toArray, List.getElem_cons_succ, List.getElem_cons_zero, Act.put, List.setIfInBounds_toArray, List.set_cons_zero, List.set_cons_succ]) | (refine plan_take (v := ?_) rfl rfl ?_ ?_; rotate_left; (focus (intro w0; go_simp; try with_reducible rfl)); simp only [List.getElem_toArray, List.getElem_cons_succ, List.getElem_cons_zero, Act.put, List.setIfInBounds_toArray, List.set_cons_zero, List.set_cons_succ]) | (refine plan_held (v := ?_) rfl rfl hS ?_ ?_; rotate_left; (focus (intro w0 hSw; (try dsimp only at hSw); go_split_ands; go_simp; try with_reducible rfl)); simp only [List.getElem_toArray, List.getElem_cons_succ, List.getElem_cons_zero, Act.put, List.setIfInBounds_toArray, List.set_cons_zero, List.set_cons_succ])  | (refine plan_skip1 rfl rfl hS ?_; simp only [List.getElem_toArray, List.getElem_cons_succ, List.getElem_cons_zero, Act.put, List.setIfInBounds_toArray, List.set_cons_zero, List.set_cons_succ]))
      (refine plan_do rfl rfl fun K hK => ?_; try simp only [List.getElem_toArray, List.getElem_cons_succ, List.getElem_cons_zero])
      go_simp
      refine (Send_any po fs L.out _ HS.out).mono ?_; rintro e w2 ⟨v1, rfl, hv1, hs2, hm2⟩
      have hm2' := Mod.ofDrew hm2
      have hnk : ¬ fs km := fun e => inl_ne (HFS.out _ e) HI.out.hub.f1
      have hS2 : w2.cell? ⟨hb, 0, none⟩ = some (.map (some km)) ∧ KM w2 km (KV vbo ((l.take k).map Life.sent ++ l.drop k)) ∧ w2.cell? ⟨vbo L.node, 3, none⟩ = some (.pointer (some ⟨po, 0, none⟩)) := ⟨hm2.cell (fun e => inl_ne (HFS.out _ e) HI.out.hub.f0) hS.1, hS.2.1.keep hm2 hnk, hm2.cell HNP.out hS.2.2⟩
      refine hK _ _ hS2 ?_
      clear hK K hS hnk
      try simp only [List.getElem_toArray, List.getElem_cons_succ, List.getElem_cons_zero, Act.put, List.setIfInBounds_toArray, List.set_cons_zero, List.set_cons_succ]
      have hl2 := HSET.out _ hs2 hm2'
      have hmc : Mod (fun k => c k = .inl L.node) wr w2 := hm2'.mono fun k hk => .inl (HFS.out k hk)
      have hput : hput Life.node ((l.take k).map Life.sent ++ l.drop k) L.sent = (l.take (k + 1)).map Life.sent ++ l.drop (k + 1) := by
        have ha := HI.out.hub.asc
        rw [HDK.out] at ha ⊢
        rw [hput_mid ha (show Life.node L.sent = Life.node L from rfl), HTK.out]
        simp
      have hH2 := HI.out.hub.set HFI.out (L' := L.sent) rfl (hl2.mono fun k hk _ => .inl hk) hmc
      rw [hput] at hH2
      have HH2 := Lib.hid hH2
      have HB2 := Lib.hid (HI.out.bag.step hmc (fun k hk => inl_ne hk) (.inl L.node))
      have HN2 := Lib.hid (HI.out.nodes.dyeKeep hmc (fun k hk => fun e => inl_ne e hk) (.inl L.node))
      have HO2 := Lib.hid (HI.out.out.dyeKeep hmc (fun k hk => fun e => inl_ne e hk) (.inl L.node))
      have HL2 := Lib.hid hl2
      have HV2 := Lib.hid hv1.reads
      clear hv1 hs2 hm2 hm2' hl2 hput hH2 hmc HSET HS HNP HFS
      repeat (first | (refine plan_skip rfl rfl ?_; simp only [List.getElem_toArray, List.getElem_cons_succ, List.getElem_cons_zero, Act.put, List.setIfInBounds_toArray, List.set_cons_zero, List.set_cons_succ]) | (refine plan_pass2 rfl rfl ?_; simp only [List.getElem_toArray, List.getElem_cons_succ, List.getElem_cons_zero, Act.put, List.setIfInBounds_toArray, List.set_cons_zero, List.set_cons_succ]) | (refine plan_pass3 rfl rfl ?_; simp only [List.getElem_toArray, List.getElem_cons_succ, List.getElem_cons_zero, Act.put, List.setIfInBounds_toArray, List.set_cons_zero, List.set_cons_succ]) | (refine plan_take (v := ?_) rfl rfl ?_ ?_; rotate_left; (focus (intro w0; go_simp; try with_reducible rfl)); simp only [List.getElem_toArray, List.getElem_cons_succ, List.getElem_cons_zero, Act.put, List.setIfInBounds_toArray, List.set_cons_zero, List.set_cons_succ]) | (refine plan_held (v := ?_) rfl rfl hS2 ?_ ?_; rotate_left; (focus (intro w0 hSw; (try dsimp only at hSw); go_split_ands; go_simp; try with_reducible rfl)); simp only [List.getElem_toArray, List.getElem_cons_succ, List.getElem_cons_zero, Act.put, List.setIfInBounds_toArray, List.set_cons_zero, List.set_cons_succ])  | (refine plan_skip1 rfl rfl hS2 ?_; simp only [List.getElem_toArray, List.getElem_cons_succ, List.getElem_cons_zero, Act.put, List.setIfInBounds_toArray, List.set_cons_zero, List.set_cons_succ]))
      (refine plan_do rfl rfl fun K hK => ?_; try simp only [List.getElem_toArray, List.getElem_cons_succ, List.getElem_cons_zero])
      go_simp
      refine (bodies_any (vbo L.node) _ L.sent v1 L.out.news _ HL2.out HV2.out (by omega)).mono ?_; rintro e w3 ⟨v2, rfl, hv2, hm3⟩
      refine hK _ _ ⟨hm3.cell (fun f => f) hS2.1, hS2.2.1.keep hm3 fun f => f, hm3.cell (fun f => f) hS2.2.2⟩ ?_
      clear hK K
      try simp only [List.getElem_toArray, List.getElem_cons_succ, List.getElem_cons_zero, Act.put, List.setIfInBounds_toArray, List.set_cons_zero, List.set_cons_succ]
      have hS3 : w3.cell? ⟨hb, 0, none⟩ = some (.map (some km)) ∧ KM w3 km (KV vbo ((l.take k).map Life.sent ++ l.drop k)) ∧ w3.cell? ⟨vbo L.node, 3, none⟩ = some (.pointer (some ⟨po, 0, none⟩)) := ⟨hm3.cell (fun f => f) hS2.1, hS2.2.1.keep hm3 fun f => f, hm3.cell (fun f => f) hS2.2.2⟩
      have HH3 := Lib.hid (HH2.out.grow hm3 (fun _ _ f => f) (.inr 9))
      have HB3 := Lib.hid (HB2.out.step hm3 (fun _ f => f.elim) (.inr 9))
      have HN3 := Lib.hid (HN2.out.dyeKeep hm3 (fun _ _ f => f) (.inr 9))
      have HO3 := Lib.hid (HO2.out.dyeKeep hm3 (fun _ _ f => f) (.inr 9))
      have hsd : L.out.news.map L.sent.body = L.sends := rfl
      rw [hsd] at hv2
      have HV3 := Lib.hid hv2.reads
      have hlen := HI.out.len
      have HFP2 : Hid (dyed (dyed c wr (.inl L.node)) w2 (.inr 9) (vbo L.node) ≠ .inr 4) := Lib.hid (by
        have hp2 : vbo L.node < w2.heap.size := World.block_lt_of_cell? w2 _ hS2.2.2
        rw [dyed_old hp2]
        by_cases hlw : wr.heap.size ≤ vbo L.node
        · rw [dyed_new hlw]; simp
        · rw [dyed_old (by omega), HFP.out]; simp)
      clear hv2 hm3 HH2 HB2 HN2 HO2 HL2 HV2 hS2 hsd
      generalize hc3 : dyed (dyed c wr (.inl L.node)) w2 (.inr 9) = c3 at HH3 HB3 HN3 HO3 HFP2
      clear hc3
      (refine plan_do rfl rfl fun K hK => ?_; try simp only [List.getElem_toArray, List.getElem_cons_succ, List.getElem_cons_zero])
      refine wp_append_reads Try.elMsg (.tmp 15) (.tmp 32) rfl (fun k => c3 k = .inr 4) _ ms.length (MsgV.vals ms) rfl HO3.out v2 L.out.news.length (MsgV.vals L.sends) rfl HV3.out (by rw [MsgV.vals_len]; simp [Life.sends]) (MsgV.vals_all _) (by omega) (by unfold maxLen; omega) ?_
      intro v4 w4 hR hm4
      refine hK _ _ ⟨hm4.cell (fun e => inr_ne (by decide) HH3.out.f0 e) hS3.1, hS3.2.1.keep hm4 (fun e => inr_ne (by decide) HH3.out.f1 e), hm4.cell HFP2.out hS3.2.2⟩ ?_
      clear hK K hS3
      try simp only [List.getElem_toArray, List.getElem_cons_succ, List.getElem_cons_zero, Act.put, List.setIfInBounds_toArray, List.set_cons_zero, List.set_cons_succ]
      have hI4 : SendI w w4 f hb l G km gm vbo (dyed c3 w3 (.inr 4)) (.slice (some ⟨g, 0, none⟩) n cap) v4 (k + 1) (ms ++ L.sends) := ⟨HH3.out.grow hm4 (fun k hk => hub_ne (by decide) hk) (.inr 4), HB3.out.step hm4 (fun k hk => inr_ne (by decide) hk) (.inr 4), HN3.out.dyeKeep hm4 (fun k hk => inr_ne (by decide) hk) (.inr 4), (by
        rw [MsgV.vals_app, List.length_append, show L.sends.length = L.out.news.length by simp [Life.sends]]
        exact hR.monoLt fun k hk _ => by
          by_cases hlw : w3.heap.size ≤ k
          · exact dyed_new hlw
          · rw [dyed_old (by omega)]
            rcases hk with hk | hk
            · exact hk
            · exact absurd hk hlw), (by rw [List.length_append, show L.sends.length = L.out.news.length by simp [Life.sends]]; omega), (by rw [HI.out.eq, HTK.out, List.flatMap_append]; simp)⟩
      obtain ⟨a4, cp4, rfl, _, _, _⟩ := hR.form
      have HI4 := Lib.hid hI4
      clear hR hm4 hI4 HH3 HB3 HN3 HO3 HV3
      repeat (first | (refine plan_skip rfl rfl ?_; simp only [List.getElem_toArray, List.getElem_cons_succ, List.getElem_cons_zero, Act.put, List.setIfInBounds_toArray, List.set_cons_zero, List.set_cons_succ]) | (refine plan_pass2 rfl rfl ?_; simp only [List.getElem_toArray, List.getElem_cons_succ, List.getElem_cons_zero, Act.put, List.setIfInBounds_toArray, List.set_cons_zero, List.set_cons_succ]) | (refine plan_pass3 rfl rfl ?_; simp only [List.getElem_toArray, List.getElem_cons_succ, List.getElem_cons_zero, Act.put, List.setIfInBounds_toArray, List.set_cons_zero, List.set_cons_succ]) | (refine plan_take (v := ?_) rfl rfl ?_ ?_; rotate_left; (focus (intro w0; go_simp; try with_reducible rfl)); simp only [List.getElem_toArray, List.getElem_cons_succ, List.getElem_cons_zero, Act.put, List.setIfInBounds_toArray, List.set_cons_zero, List.set_cons_succ]) | fail )
      refine plan_nil ?_
      go_wp2
      go_roundw
      case rel => exact ⟨k + 1, by omega, by go_num, _, _, HI4.out⟩
      case measure => simp [intOf]; omega
    · have hki : ¬ (k : Int) < (n : Int) := by omega
      have hkn : k = n := by omega
      go_wp2
      go_ret
      obtain ⟨h1, h2⟩ := HI.out.hub.shut HI.out.bag
      have e1 : l.take k = l := by rw [hkn, HNN.out]; exact List.take_length
      have e2 : l.drop k = [] := by rw [hkn, HNN.out]; exact List.drop_length
      rw [e1, e2, List.append_nil] at h1
      have hms : ms = mz := by rw [HI.out.eq, e1, HMZ.out]
      have ho := HI.out.out
      rw [hms] at ho
      have hin := HI.out.hub
      rw [e1, e2, List.append_nil] at hin
      refine ⟨_, rfl, ho.mono fun k hk => HI.out.bag.cl k 4 hk (by decide) (by decide), ⟨km, gm, vbo, fun k => if c k = .inr 4 then .inr 9 else c k, hin.recol2 fun k hk => if_neg (hub_ne (by decide) hk), fun k hk => ?_⟩, h2⟩
      have h4 : ¬ c k = .inr 4 := fun e => hk (if_pos e)
      exact ⟨HI.out.bag.cf k fun e => hk ((if_neg h4).trans e), fun e => h4 (ho.2 k e)⟩
theorem HSend_any {w : World} {f : Nat → Prop} {hb : Nat} {l : List Life} {G : Int → Option Int} (h : HubAt w f hb l G) (hl : l.length ≤ 1000) :
    Calls Try.prog 56 #[.pointer (some ⟨hb, 0, none⟩)] w fun e w' => ∃ v, e = .returned v ∧ Row w' (fun k => w.heap.size ≤ k) 65 7 v (l.flatMap Life.sends).length (MsgV.vals (l.flatMap Life.sends)) ∧ HubAt w' (fun k => f k ∨ w.heap.size ≤ k) hb (l.map Life.sent) G ∧ Mod f w w' :=
  (HSend_own h hl).mono fun e w' ⟨v, he, hv, hx, hm⟩ => ⟨v, he, hv, hx.mono fun k hk _ => hk.1, hm⟩
end Go.Proofs.Ytidkapanpieflaa
