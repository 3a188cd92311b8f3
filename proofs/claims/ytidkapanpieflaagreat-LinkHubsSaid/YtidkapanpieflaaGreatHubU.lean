/- The reference's hub: Drop: contract. -/
import Derived.Test.YtidkapanpieflaaGreatHubY
namespace Go.Proofs.YtidkapanpieflaaGreat
open Go.RowKit
set_option linter.unusedVariables false
set_option linter.unusedSimpArgs false
theorem goneC_get (gs : List (Int × Int)) (j : Nat) (q : Int × Int) (h : gs[j]? = some q) : (goneC gs)[j * 2]? = some (.int .i64 q.1) ∧ (goneC gs)[j * 2 + 1]? = some (.int .u32 q.2) := by
  obtain ⟨s, t, e, hs, _, _⟩ := split_at h
  subst e
  have e2 : goneC (q :: t) = .int .i64 q.1 :: .int .u32 q.2 :: goneC t := by simp [goneC]
  rw [goneC_app, e2]
  constructor
  · rw [List.getElem?_append_right (by rw [goneC_len]; omega), goneC_len, show j * 2 - s.length * 2 = 0 by omega]; rfl
  · rw [List.getElem?_append_right (by rw [goneC_len]; omega), goneC_len, show j * 2 + 1 - s.length * 2 = 1 by omega]; rfl
def goneDrop (gs : List (Int × Int)) (n e : Int) : List (Int × Int) := gs.filter (fun q => decide (q.1 ≠ n)) ++ [(n, e)]
theorem XIn.formG {w : World} {xb : Nat} {l : List RLife} {gs : List (Int × Int)} {lv gv : Value} {pbo : Int → Nat} {c : Clr} (h : XIn w xb l gs lv gv pbo c) : ∃ ad cap, gv = .slice ad gs.length cap ∧ gs.length ≤ cap ∧ cap ≤ maxLen ∧ w.cell? ⟨xb, 1, none⟩ = some gv ∧ (0 < gs.length → ∃ g, ad = some ⟨g, 0, none⟩ ∧ c g = .inr 2 ∧ g < w.heap.size ∧ ∀ (j : Nat) (q : Int × Int), gs[j]? = some q → w.cell? ⟨g, j * 2, none⟩ = some (.int .i64 q.1) ∧ w.cell? ⟨g, j * 2 + 1, none⟩ = some (.int .u32 q.2)) := by
  obtain ⟨ad, cap, h1, h2, h3, h4⟩ := h.rowg.form
  refine ⟨ad, cap, h1, h2, h3, h.top.cell rfl, fun h0 => ?_⟩
  obtain ⟨g, e1, e2, e3, e4⟩ := h4 h0
  exact ⟨g, e1, e2, e3, fun j q hq => ⟨e4 _ _ (goneC_get gs j q hq).1, e4 _ _ (goneC_get gs j q hq).2⟩⟩
theorem ptrs_one {pbo : Int → Nat} {l : List RLife} {u : Value} (h : u ∈ ptrsC pbo l) : u.oneCell' = true := by
  unfold ptrsC at h
  obtain ⟨x, _, rfl⟩ := List.mem_map.1 h
  rfl
theorem ptrsC_app2 (pbo : Int → Nat) (a b : List RLife) : ptrsC pbo (a ++ b) = ptrsC pbo a ++ ptrsC pbo b := by simp [ptrsC]
theorem hdel_ptrs {l : List RLife} (ha : Asc RLife.node l) {j : Nat} {L : RLife} (hj : l[j]? = some L) (pbo : Int → Nat) : (hdel RLife.node l L.node).length = j + (l.length - (j + 1)) ∧ ptrsC pbo (hdel RLife.node l L.node) = (ptrsC pbo l).take j ++ (ptrsC pbo l).drop (j + 1) := by
  obtain ⟨s, t, e, hsl, hs, ht⟩ := split_at hj
  have hd : hdel RLife.node l L.node = s ++ t := by
    rw [e] at ha ⊢
    exact hdel_mid ha
  rw [hd]
  constructor
  · rw [List.length_append, hsl, ht, List.length_drop]
  · rw [ptrsC_app2, hs, ht]
    unfold ptrsC
    rw [List.map_take, List.map_drop]
theorem gsSz : (Tryz.prog.info? 27).map (·.size) = some 1 := by kernel_rfl
theorem slSz2 : (Tryz.prog.info? 26).map (·.size) = some 1 := by kernel_rfl
theorem Row.readsTake {w : World} {f : Nat → Prop} {e : TypeId} {g n cap i : Nat} {xs : List Value} (h : Row w f e 1 (.slice (some ⟨g, 0, none⟩) n cap) n xs) (hi : i ≤ n) : Reads w (.slice (some ⟨g, 0, none⟩) i cap) i (xs.take i) := by
  obtain ⟨ad, cp, e1, h1, h2, h3⟩ := h.form
  injection e1 with e2 e3 e4
  subst e4
  refine ⟨some ⟨g, 0, none⟩, cap, rfl, by omega, h2, fun h0 => ?_⟩
  obtain ⟨g', e5, _, _, h6⟩ := h3 (by omega)
  rw [← e2] at e5
  injection e5 with e5
  injection e5 with e5
  subst e5
  refine ⟨g, 0, rfl, fun j u hu => ?_⟩
  rw [Nat.zero_add]
  rw [List.getElem?_take] at hu
  split at hu
  · exact h6 j u hu
  · cases hu
theorem Row.readsDrop {w : World} {f : Nat → Prop} {e : TypeId} {g n cap k : Nat} {xs : List Value} {ad : Option Addr} (h : Row w f e 1 (.slice (some ⟨g, 0, none⟩) n cap) n xs) (hk : k ≤ n) (had : (if cap = k then some (⟨g, 0, none⟩ : Addr) else some ⟨g, k, none⟩) = ad) : Reads w (.slice ad (n - k) (cap - k)) (n - k) (xs.drop k) := by
  obtain ⟨ad2, cp, e1, h1, h2, h3⟩ := h.form
  injection e1 with e2 e3 e4
  subst e4
  refine ⟨ad, cap - k, rfl, by omega, by omega, fun h0 => ?_⟩
  obtain ⟨g', e5, _, _, h6⟩ := h3 (by omega)
  rw [← e2] at e5
  injection e5 with e5
  injection e5 with e5
  subst e5
  refine ⟨g, k, ?_, fun j u hu => ?_⟩
  · rw [← had, if_neg (by omega)]
  · rw [List.getElem?_drop] at hu
    exact h6 _ u hu
set_option maxRecDepth 100000 in
set_option maxHeartbeats 4000000 in
theorem XDrop_any {w : World} {f : Nat → Prop} {xb : Nat} {l : List RLife} {gs : List (Int × Int)} (h : XAt w f xb l gs) (v : Int) (hl : l.length ≤ 1000) (hgl : gs.length ≤ 1000) :
    Calls Tryz.prog 17 #[.pointer (some ⟨xb, 0, none⟩), .int .i64 v] w fun e w' => e = .returned (.bool (hfind RLife.node l v).isSome) ∧ XAt w' (fun k => f k ∨ w.heap.size ≤ k) xb (hdel RLife.node l v) ((hfind RLife.node l v).elim gs fun L => goneDrop gs v L.epoch) ∧ Mod f w w' := by
  obtain ⟨lv, gv, pbo, c, h, hbag⟩ := h.open
  have HF := Lib.hid (XFind_any h v)
  have HH := Lib.hid h
  have HB := Lib.hid hbag
  obtain ⟨ad, cp, hlv, hnc, hcm, c0, hg⟩ := h.form
  obtain ⟨ga, gc, hgv, hgn, hgm, c1, hgg⟩ := h.formG
  unfold maxLen at hcm hgm
  subst hlv
  subst hgv
  have HG := Lib.hid hg
  have HGG := Lib.hid hgg
  have HC := Lib.hid c0
  have HC1 := Lib.hid c1
  obtain ⟨n, hnn⟩ : ∃ n, n = l.length := ⟨_, rfl⟩
  obtain ⟨m, hmm⟩ : ∃ m, m = gs.length := ⟨_, rfl⟩
  rw [← hnn] at HH HC HG hnc hl
  rw [← hmm] at HH HC1 HGG hgn hgl
  have HNN := Lib.hid hnn
  have HMM := Lib.hid hmm
  clear h hbag hg hgg c0 c1 hnn hmm
  go_enter Tryz.func17, Tryz.ntmps17
  go_wp2_with fail
  refine HF.out.mono ?_; rintro e w1 ⟨i, rfl, hp, rfl⟩
  rcases hp with ⟨rfl, hn⟩ | ⟨j, L, rfl, hj, hLn, hn⟩
  · have HN := Lib.hid hn
    have HX := Lib.hid (HH.out.shut HB.out)
    clear hn
    go_wp2
    go_ret
    rw [HN.out]
    have e : hdel RLife.node l v = l := filter_all fun y hy => by have := hfind_none.1 HN.out y hy; simpa using this
    rw [e]
    exact ⟨rfl, HX.out⟩
  · have hjl : j < n := by rw [HNN.out]; exact (List.getElem?_eq_some_iff.1 hj).1
    have hj0 : ¬ ((j : Int) < 0) := by omega
    have HN := Lib.hid hn
    have HJ := Lib.hid hj
    have HLN := Lib.hid hLn
    clear hn hj hLn
    go_wp2_with fail
    go_loopw [6, 7] (fun gw iv wr => ∃ (k : Nat) (gk : Nat), k ≤ m ∧ iv = .int .i64 (k : Int) ∧ gk ≤ k ∧ ((gs.take k).filter (fun q => decide (q.1 ≠ v))).length = gk ∧ Row wr (fun q => w1.heap.size ≤ q) 77 2 gw gk (goneC ((gs.take k).filter (fun q => decide (q.1 ≠ v)))) ∧ Mod (fun _ => False) w1 wr) (fun _ iv _ => m - (intOf iv).toNat)
    case atStart => exact ⟨0, 0, Nat.zero_le _, rfl, Nat.le_refl _, rfl, by simpa [goneC] using Row.made (f := fun k => w1.heap.size ≤ k) (cur := #[]) (sz := 2) (n := 0) (allocNew w1 (.cells #[] 77)) rfl (by unfold maxLen; omega) (Nat.le_refl _), (Mod.refl _ _).alloc _⟩
    case round =>
      obtain ⟨k, gk, hk, rfl, hgk, hgl2, hr, hm⟩ := hrel
      have HR := Lib.hid hr
      have HM := Lib.hid hm
      have HGL := Lib.hid hgl2
      obtain ⟨oa, oc, rfl, _, _, _⟩ := hr.form
      have c0 := hm.cell (fun f => f) HC.out
      have c1 := hm.cell (fun f => f) HC1.out
      clear hr hm hgl2
      by_cases hlt : k < m
      · obtain ⟨g, rfl, _, _, hc⟩ := HGG.out (by omega)
        obtain ⟨q, hq⟩ : ∃ q, gs[k]? = some q := ⟨_, List.getElem?_eq_getElem (by have := HMM.out; omega)⟩
        have cx := HM.out.cell (fun f => f) (hc _ _ hq).1
        have cy := HM.out.cell (fun f => f) (hc _ _ hq).2
        have hki : (k : Int) < (m : Int) := by omega
        have htk : gs.take (k + 1) = gs.take k ++ [q] := by rw [List.take_add_one, hq]; rfl
        have HTK := Lib.hid htk
        clear hc hq htk
        by_cases hv : q.1 = v
        · have hq1 : (q.1 != v) = false := by simp [hv]
          have hq2 : decide (q.1 = v) = true := decide_eq_true hv
          have HT : Hid ((gs.take (k + 1)).filter (fun q => decide (q.1 ≠ v)) = (gs.take k).filter (fun q => decide (q.1 ≠ v))) := Lib.hid (by rw [HTK.out, List.filter_append, List.filter_cons, if_neg (by simp [hv])]; simp)
          clear hv
          go_wp2
          go_roundw
          case rel => exact ⟨k + 1, gk, by omega, by go_num, by omega, by rw [HT.out]; exact HGL.out, by rw [HT.out]; exact HR.out, HM.out⟩
          case measure => simp [intOf]; omega
        · have hq1 : (q.1 != v) = true := by simp [hv]
          have hq2 : decide (q.1 = v) = false := decide_eq_false hv
          have HT : Hid ((gs.take (k + 1)).filter (fun q => decide (q.1 ≠ v)) = (gs.take k).filter (fun q => decide (q.1 ≠ v)) ++ [q]) := Lib.hid (by rw [HTK.out, List.filter_append, List.filter_cons, if_pos (by simp [hv])]; simp)
          clear hv
          go_wp2_with (at_builtin; go_loud (refine wpList_append_one Tryz.elG rfl (.tmp 33) (.tmp 41) rfl #[.int .i64 q.1, .int .u32 q.2] _ _ _ _ (HR.out.alloc _) _ (allocNew wr _) rfl rfl rfl (by simp [Value.oneCell']) (by omega) (by unfold maxLen; omega) ?_); intro v4 w4 hR4 hm4)
          obtain ⟨o4, oc4, rfl, _, _, _⟩ := hR4.form
          have HR4 : Hid (Row w4 (fun q => w1.heap.size ≤ q) 77 2 (.slice o4 (gk + 1) oc4) (gk + 1) (goneC ((gs.take (k + 1)).filter (fun q => decide (q.1 ≠ v))))) := Lib.hid (by
            rw [HT.out, goneC_app]
            have hs := HM.out.size
            have := hR4.mono (f' := fun k => w1.heap.size ≤ k) fun k hk => by
              rcases hk with hk | hk
              · exact hk
              · simp at hk; omega
            simpa [goneC] using this)
          have HM4 : Hid (Mod (fun _ => False) w1 w4) := Lib.hid ((HM.out.alloc _).trans (Mod.row (HR.out.alloc _) hm4) fun k hk => .inr hk)
          clear hR4 hm4
          go_roundw
          case rel => exact ⟨k + 1, gk + 1, by omega, by go_num, by omega, by rw [HT.out, List.length_append, HGL.out]; rfl, HR4.out, HM4.out⟩
          case measure => simp [intOf]; omega
      · obtain rfl : k = m := by omega
        have hki : ¬ (k : Int) < (k : Int) := by omega
        have e1 : gs.take k = gs := by rw [HMM.out]; exact List.take_length
        rw [e1] at HR HGL
        obtain ⟨g, rfl, hgc, hgl3, hcell⟩ := HG.out (by omega)
        have x0 := HM.out.cell (fun f => f) (hcell j L HJ.out)
        have x2 := HM.out.cell (fun f => f) (HH.out.epochAt HJ.out)
        have hji : (j : Int) < (n : Int) := by omega
        have HBK := Lib.hid (HH.out.top.keep HM.out fun f => f)
        clear hcell e1
        go_wp2_with (first
          | (at_builtin; go_loud (refine wpList_append_one Tryz.elG rfl (.tmp 44) (.tmp 57) rfl #[.int .i64 v, .int .u32 L.epoch] _ _ _ _ (HR.out.alloc _) _ (allocNew wr _) rfl rfl rfl (by simp [Value.oneCell']) (by omega) (by unfold maxLen; omega) ?_); intro v4 w4 hR4 hm4; obtain ⟨a4, c4, rfl, _, _, _⟩ := hR4.form; have HR4 := Lib.hid hR4; have HM4 : Hid (Mod (fun _ => False) w1 w4) := Lib.hid ((HM.out.alloc _).trans (Mod.row (HR.out.alloc _) hm4) fun k hk => .inr hk); have HB4 := Lib.hid (HH.out.top.keep HM4.out fun f => f); clear hR4 hm4)
          | (refine wpList_store_blk1 rfl _ _ _ rfl xb 1 29 [.slice (some ⟨g, 0, none⟩) n cp, .slice ga k gc] (.slice a4 (gk + 1) c4) rfl rfl HB4.out (by simp) gsSz rfl ?_; intro w5 HB5 HM5))
        have HM5' : Hid (Mod (fun k => c k = .inr 0) w1 w5) := Lib.hid ((HM4.out.mono (G := fun k => c k = .inr 0) fun _ f => f.elim).trans HM5.out fun k hk => .inl (by rw [hk]; exact HH.out.f0))
        have HX5 : Hid (XIn w5 xb l (goneDrop gs v L.epoch) (.slice (some ⟨g, 0, none⟩) n cp) (.slice a4 (gk + 1) c4) pbo (dyed c w1 (.inr 2))) := Lib.hid ⟨HB5.out, HH.out.row.dyeKeep HM5'.out (fun k e e2 => by rw [e] at e2; cases e2) _, (by
          have hs := HM.out.size
          have h2 : Row w5 (fun q => w1.heap.size ≤ q) 77 2 (.slice a4 (gk + 1) c4) (gk + 1) (goneC (goneDrop gs v L.epoch)) := by
            unfold goneDrop
            rw [goneC_app]
            have := (HR4.out.mono (f' := fun k => w1.heap.size ≤ k) fun k hk => by
              rcases hk with hk | hk
              · exact hk
              · simp at hk; omega).keep HM5.out fun k hk e => by have hk : w1.heap.size ≤ k := hk; have := HH.out.top.lt; omega
            simpa [goneC] using this
          have h3 : (goneDrop gs v L.epoch).length = gk + 1 := by unfold goneDrop; rw [List.length_append, HGL.out]; rfl
          rw [h3]
          exact h2.mono fun k hk => dyed_new hk), HH.out.fam.grow rlifeKept HM5'.out (fun k m e e2 => by rw [e] at e2; cases e2) _, HH.out.asc, by rw [dyed_old HH.out.top.lt]; exact HH.out.f0, fun q hq => by
          unfold goneDrop at hq
          rcases List.mem_append.1 hq with hq | hq
          · exact HH.out.ge q (List.mem_filter.1 hq).1
          · rw [List.mem_singleton.1 hq]; exact (HH.out.life HN.out).2.1⟩
        have HB5x := Lib.hid (HB.out.step HM5'.out (fun k hk => by rw [hk]; decide) (.inr 2))
        obtain ⟨j1, hj1⟩ : ∃ j1, j1 = j + 1 := ⟨_, rfl⟩
        have hj1e : IntKind.i64.wrap ((j : Int) + 1) = (j1 : Int) := by rw [hj1]; exact IntWalk.i64_in _ (by omega)
        have hj1n : j1 ≤ n := by omega
        have hjn : j ≤ n := by omega
        have hjc : j ≤ cp := by omega
        have hjc2 : (j : Int) ≤ (cp : Int) := by omega
        obtain ⟨ad2, had2⟩ : ∃ ad2, (if cp = j1 then some (⟨g, 0, none⟩ : Addr) else some ⟨g, j1, none⟩) = ad2 := ⟨_, rfl⟩
        have HAD := Lib.hid had2
        have HJ1 := Lib.hid hj1
        have hS : w5.drew.cell? ⟨xb, 0, none⟩ = some (.slice (some ⟨g, 0, none⟩) n cp) := HB5.out.cell rfl
        have hrow : Row w5.drew (fun k => dyed c w1 (.inr 2) k = .inr 1) 46 1 (.slice (some ⟨g, 0, none⟩) n cp) n (ptrsC pbo l) := by
          have := HX5.out.row
          rw [← HNN.out] at this
          exact this
        have HROW := Lib.hid hrow
        clear hrow had2 hj1
        refine wp_region_plan [19] [(0, 0), (2, 0), (3, 0), (4, 0), (5, 1), (6, 0), (7, 0), (9, 0), (10, 0), (11, 0), (12, 1), (13, 0), (14, 0), (15, 0), (1, 2), (8, 2), (16, 2), (17, 0), (18, 0), (19, 3)] (fun w' : World => w'.cell? ⟨xb, 0, none⟩ = some (.slice (some ⟨g, 0, none⟩) n cp)) (by kernel_rfl) (by kernel_rfl) (fun d _ _ _ _ h => by cases d <;> exact h) ?_
        repeat (first | (refine plan_skip rfl rfl ?_; simp only [List.getElem_toArray, List.getElem_cons_succ, List.getElem_cons_zero, Act.put, List.setIfInBounds_toArray, List.set_cons_zero, List.set_cons_succ]) | (refine plan_pass2 rfl rfl ?_; simp only [List.getElem_toArray, List.getElem_cons_succ, List.getElem_cons_zero, Act.put, List.setIfInBounds_toArray, List.set_cons_zero, List.set_cons_succ]) | (refine plan_pass3 rfl rfl ?_; simp only [List.getElem_toArray, List.getElem_cons_succ, List.getElem_cons_zero, Act.put, List.setIfInBounds_toArray, List.set_cons_zero, List.set_cons_succ]) | (refine plan_take (v := ?_) rfl rfl ?_ ?_; rotate_left; (focus (intro w0; go_simp; try with_reducible rfl)); simp only [List.getElem_toArray, List.getElem_cons_succ, List.getElem_cons_zero, Act.put, List.setIfInBounds_toArray, List.set_cons_zero, List.set_cons_succ]) | (refine plan_held (v := ?_) rfl rfl hS ?_ ?_; rotate_left; (focus (intro w0 hSw; (try dsimp only at hSw); go_split_ands; go_simp; try with_reducible rfl)); simp only [List.getElem_toArray, List.getElem_cons_succ, List.getElem_cons_zero, Act.put, List.setIfInBounds_toArray, List.set_cons_zero, List.set_cons_succ])  | (refine plan_skip1 rfl rfl hS ?_; simp only [List.getElem_toArray, List.getElem_cons_succ, List.getElem_cons_zero, Act.put, List.setIfInBounds_toArray, List.set_cons_zero, List.set_cons_succ]))
        rw [HAD.out]
        have HPL : Hid ((ptrsC pbo l).length = n) := Lib.hid (by rw [ptrsC_len, HNN.out])
        (refine plan_do rfl rfl fun K hK => ?_; try simp only [List.getElem_toArray, List.getElem_cons_succ, List.getElem_cons_zero])
        go_simp
        refine hK _ _ (allocCell _ hS) ?_
        clear hK K
        try simp only [List.getElem_toArray, List.getElem_cons_succ, List.getElem_cons_zero, Act.put, List.setIfInBounds_toArray, List.set_cons_zero, List.set_cons_succ]
        obtain ⟨w6, hw6⟩ : ∃ w6, w6 = (w5.alloc (.cells #[] 46)).drew := ⟨_, rfl⟩
        have hm6 : Mod (fun _ => False) w5 w6 := hw6 ▸ ((Mod.refl _ _).alloc _).drew
        have hr6 : Row w6 (fun k => w5.heap.size ≤ k) 46 1 (.slice (some ⟨w5.heap.size, 0, none⟩) 0 0) 0 [] := hw6 ▸ Row.made (cur := #[]) (sz := 1) (n := 0) (allocNew w5 (.cells #[] 46)) rfl (by unfold maxLen; omega) (Nat.le_refl _)
        try rw [← hw6]
        have HR6 := Lib.hid hr6
        have HM6 := Lib.hid hm6
        have hS6 : w6.cell? ⟨xb, 0, none⟩ = some (.slice (some ⟨g, 0, none⟩) n cp) := hm6.cell (fun f => f) hS
        have HROW6 := Lib.hid ((show Row w5 _ _ _ _ _ _ from HROW.out).keep hm6 fun _ _ f => f)
        clear hw6 hm6 hr6 hS
        (refine plan_do rfl rfl fun K hK => ?_; try simp only [List.getElem_toArray, List.getElem_cons_succ, List.getElem_cons_zero])
        refine wp_append_reads Tryz.elRL (.tmp 62) (.tmp 68) rfl (fun k => w5.heap.size ≤ k) _ 0 [] rfl HR6.out (.slice (some ⟨g, 0, none⟩) j cp) j ((ptrsC pbo l).take j) rfl (HROW6.out.readsTake hjn) (by rw [List.length_take, HPL.out]; omega) (fun u hu => ptrs_one (List.mem_of_mem_take hu)) (by omega) (by unfold maxLen; omega) ?_
        intro v7 w7 hR7 hm7
        have hxl : xb < w5.heap.size := lt_of_block HB5.out
        have hS7 : w7.cell? ⟨xb, 0, none⟩ = some (.slice (some ⟨g, 0, none⟩) n cp) := hm7.cell (show ¬ w5.heap.size ≤ xb by omega) hS6
        refine hK _ _ hS7 ?_
        clear hK K
        try simp only [List.getElem_toArray, List.getElem_cons_succ, List.getElem_cons_zero, Act.put, List.setIfInBounds_toArray, List.set_cons_zero, List.set_cons_succ]
        have hs56 := HM6.out.size
        have HM7 : Hid (Mod (fun _ => False) w5 w7) := Lib.hid (HM6.out.trans hm7 fun k hk => .inr hk)
        obtain ⟨a7, c7, rfl, _, _, _⟩ := hR7.form
        have HR7 : Hid (Row w7 (fun k => w5.heap.size ≤ k) 46 1 (.slice a7 (0 + j) c7) (0 + j) ((ptrsC pbo l).take j)) := Lib.hid (hR7.mono fun k hk => hk.elim id fun h => by omega)
        have HROW7 : Hid (Row w7 (fun k => dyed c w1 (.inr 2) k = .inr 1 ∧ k < w5.heap.size) 46 1 (.slice (some ⟨g, 0, none⟩) n cp) n (ptrsC pbo l)) := Lib.hid ((show Row w5 _ _ _ _ _ _ from HROW.out.monoLt fun k a b => ⟨a, b⟩).keep HM7.out fun _ _ f => f)
        clear hS6 hR7 hm7 HROW6 HR6
        repeat (first | (refine plan_skip rfl rfl ?_; simp only [List.getElem_toArray, List.getElem_cons_succ, List.getElem_cons_zero, Act.put, List.setIfInBounds_toArray, List.set_cons_zero, List.set_cons_succ]) | (refine plan_pass2 rfl rfl ?_; simp only [List.getElem_toArray, List.getElem_cons_succ, List.getElem_cons_zero, Act.put, List.setIfInBounds_toArray, List.set_cons_zero, List.set_cons_succ]) | (refine plan_pass3 rfl rfl ?_; simp only [List.getElem_toArray, List.getElem_cons_succ, List.getElem_cons_zero, Act.put, List.setIfInBounds_toArray, List.set_cons_zero, List.set_cons_succ]) | (refine plan_take (v := ?_) rfl rfl ?_ ?_; rotate_left; (focus (intro w0; go_simp; try with_reducible rfl)); simp only [List.getElem_toArray, List.getElem_cons_succ, List.getElem_cons_zero, Act.put, List.setIfInBounds_toArray, List.set_cons_zero, List.set_cons_succ]) | (refine plan_held (v := ?_) rfl rfl hS7 ?_ ?_; rotate_left; (focus (intro w0 hSw; (try dsimp only at hSw); go_split_ands; go_simp; try with_reducible rfl)); simp only [List.getElem_toArray, List.getElem_cons_succ, List.getElem_cons_zero, Act.put, List.setIfInBounds_toArray, List.set_cons_zero, List.set_cons_succ])  | (refine plan_skip1 rfl rfl hS7 ?_; simp only [List.getElem_toArray, List.getElem_cons_succ, List.getElem_cons_zero, Act.put, List.setIfInBounds_toArray, List.set_cons_zero, List.set_cons_succ]))
        (refine plan_do rfl rfl fun K hK => ?_; try simp only [List.getElem_toArray, List.getElem_cons_succ, List.getElem_cons_zero])
        refine wp_append_reads Tryz.elRL (.tmp 69) (.tmp 76) rfl (fun k => w5.heap.size ≤ k) _ (0 + j) _ rfl HR7.out (.slice ad2 (n - j1) (cp - j1)) (n - j1) ((ptrsC pbo l).drop j1) rfl (HROW7.out.readsDrop hj1n HAD.out) (by rw [List.length_drop, HPL.out]; omega) (fun u hu => ptrs_one (List.mem_of_mem_drop hu)) (by omega) (by unfold maxLen; omega) ?_
        intro v8 w8 hR8 hm8
        have hS8 : w8.cell? ⟨xb, 0, none⟩ = some (.slice (some ⟨g, 0, none⟩) n cp) := hm8.cell (show ¬ w5.heap.size ≤ xb by omega) hS7
        refine hK _ _ hS8 ?_
        clear hK K
        try simp only [List.getElem_toArray, List.getElem_cons_succ, List.getElem_cons_zero, Act.put, List.setIfInBounds_toArray, List.set_cons_zero, List.set_cons_succ]
        have hs57 := HM7.out.size
        have HM8 : Hid (Mod (fun _ => False) w5 w8) := Lib.hid (HM7.out.trans hm8 fun k hk => .inr hk)
        obtain ⟨a8, c8, rfl, _, _, _⟩ := hR8.form
        have hlen8 : (hdel RLife.node l v).length = 0 + j + (n - j1) ∧ ptrsC pbo (hdel RLife.node l v) = (ptrsC pbo l).take j ++ (ptrsC pbo l).drop j1 := by
          have h1 := hdel_ptrs HH.out.asc HJ.out pbo
          rw [HLN.out, ← HNN.out, ← HJ1.out] at h1
          rw [Nat.zero_add]
          exact h1
        have HR8 : Hid (Row w8 (fun k => w5.heap.size ≤ k) 46 1 (.slice a8 (0 + j + (n - j1)) c8) (hdel RLife.node l v).length (ptrsC pbo (hdel RLife.node l v))) := Lib.hid (by
          rw [hlen8.1, hlen8.2]
          exact hR8.mono fun k hk => hk.elim id fun h => by omega)
        have HB8 := Lib.hid (HB5.out.keep HM8.out fun f => f)
        clear hS7 hR8 hm8 HROW7 HR7 hlen8
        repeat (first | (refine plan_skip rfl rfl ?_; simp only [List.getElem_toArray, List.getElem_cons_succ, List.getElem_cons_zero, Act.put, List.setIfInBounds_toArray, List.set_cons_zero, List.set_cons_succ]) | (refine plan_pass2 rfl rfl ?_; simp only [List.getElem_toArray, List.getElem_cons_succ, List.getElem_cons_zero, Act.put, List.setIfInBounds_toArray, List.set_cons_zero, List.set_cons_succ]) | (refine plan_pass3 rfl rfl ?_; simp only [List.getElem_toArray, List.getElem_cons_succ, List.getElem_cons_zero, Act.put, List.setIfInBounds_toArray, List.set_cons_zero, List.set_cons_succ]) | (refine plan_take (v := ?_) rfl rfl ?_ ?_; rotate_left; (focus (intro w0; go_simp; try with_reducible rfl)); simp only [List.getElem_toArray, List.getElem_cons_succ, List.getElem_cons_zero, Act.put, List.setIfInBounds_toArray, List.set_cons_zero, List.set_cons_succ]) | (refine plan_held (v := ?_) rfl rfl hS8 ?_ ?_; rotate_left; (focus (intro w0 hSw; (try dsimp only at hSw); go_split_ands; go_simp; try with_reducible rfl)); simp only [List.getElem_toArray, List.getElem_cons_succ, List.getElem_cons_zero, Act.put, List.setIfInBounds_toArray, List.set_cons_zero, List.set_cons_succ])  | (refine plan_skip1 rfl rfl hS8 ?_; simp only [List.getElem_toArray, List.getElem_cons_succ, List.getElem_cons_zero, Act.put, List.setIfInBounds_toArray, List.set_cons_zero, List.set_cons_succ]))
        (refine plan_end rfl rfl rfl fun K hK => ?_; (try simp only [List.getElem_toArray, List.getElem_cons_succ, List.getElem_cons_zero]))
        refine wp_store_blk1 _ _ _ rfl xb 0 29 _ (.slice a8 (0 + j + (n - j1)) c8) rfl rfl HB8.out (by simp) slSz2 rfl ?_
        intro w9 HB9 HM9
        refine hK _ _ ?_
        clear hK K hS8
        try simp only [List.getElem_toArray, List.getElem_cons_succ, List.getElem_cons_zero, Act.put, List.setIfInBounds_toArray, List.set_cons_zero, List.set_cons_succ]
        repeat (first | (refine plan_skip rfl rfl ?_; simp only [List.getElem_toArray, List.getElem_cons_succ, List.getElem_cons_zero, Act.put, List.setIfInBounds_toArray, List.set_cons_zero, List.set_cons_succ]) | (refine plan_pass2 rfl rfl ?_; simp only [List.getElem_toArray, List.getElem_cons_succ, List.getElem_cons_zero, Act.put, List.setIfInBounds_toArray, List.set_cons_zero, List.set_cons_succ]) | (refine plan_pass3 rfl rfl ?_; simp only [List.getElem_toArray, List.getElem_cons_succ, List.getElem_cons_zero, Act.put, List.setIfInBounds_toArray, List.set_cons_zero, List.set_cons_succ]) | (refine plan_take (v := ?_) rfl rfl ?_ ?_; rotate_left; (focus (intro w0; go_simp; try with_reducible rfl)); simp only [List.getElem_toArray, List.getElem_cons_succ, List.getElem_cons_zero, Act.put, List.setIfInBounds_toArray, List.set_cons_zero, List.set_cons_succ]) | fail )
        refine plan_nil ?_
        go_wp2
        go_ret
        have HM9' : Mod (fun k => dyed c w1 (.inr 2) k = .inr 0) w5 w9 := (HM8.out.mono (G := fun k => dyed c w1 (.inr 2) k = .inr 0) fun _ f => f.elim).trans HM9.out fun k hk => .inl (by rw [hk]; exact HX5.out.f0)
        have hX9 : XIn w9 xb (hdel RLife.node l v) (goneDrop gs v L.epoch) (.slice a8 (0 + j + (n - j1)) c8) (.slice a4 (gk + 1) c4) pbo (dyed (dyed c w1 (.inr 2)) w5 (.inr 1)) := ⟨HB9.out, (HR8.out.keep HM9.out fun k hk e => by have hk : w5.heap.size ≤ k := hk; omega).mono fun k hk => dyed_new hk, HX5.out.rowg.dyeKeep HM9' (fun k e e2 => by rw [e] at e2; cases e2) _, (HX5.out.fam.grow rlifeKept HM9' (fun k m e e2 => by rw [e] at e2; cases e2) _).del v, asc_hdel HH.out.asc v, by rw [dyed_old hxl]; exact HX5.out.f0, HX5.out.ge⟩
        rw [HN.out]
        exact ⟨rfl, hX9.shut (HB5x.out.step HM9' (fun k hk => by rw [hk]; decide) (.inr 1))⟩
end Go.Proofs.YtidkapanpieflaaGreat
