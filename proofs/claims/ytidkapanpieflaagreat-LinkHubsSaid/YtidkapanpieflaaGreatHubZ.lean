/- The reference's hub: Hear: contract. -/
import Derived.Test.YtidkapanpieflaaGreatHubQ
import Derived.Test.YtidkapanpieflaaGreatHubU
import Derived.Test.YtidkapanpieflaaGreatHubH
namespace Go.Proofs.YtidkapanpieflaaGreat
open Go.RowKit
set_option linter.unusedVariables false
set_option linter.unusedSimpArgs false
theorem fresh_abs (n : Int) (up : Bool) (ep : Int) : (RLife.fresh n up ep).abs = Life.fresh n up ep := by
  unfold RLife.fresh RLife.abs Life.fresh RefS.snd RefR.rcv Sr.add
  simp
/-- what was dropped, as the program has it -/
def GoneR (G : Int → Option Int) (gs : List (Int × Int)) : Prop := ∀ n e, G n = some e ↔ (n, e) ∈ gs
def Small (l : List RLife) (a b : Nat) : Prop := ∀ X ∈ l, X.s.l.length ≤ a ∧ X.r.n ≤ b
theorem abs_node (X : RLife) : X.abs.node = X.node := rfl
def XHearEnd (w w' : World) (f : Nat → Prop) (xb : Nat) (gs : List (Int × Int)) (l : List RLife) (a b : Nat) (e : Ending) (r : Bool × List ByteArray × List MsgV × List Life) : Prop :=
  ∃ v1 v2 l', e = .returned (.tuple #[.bool r.1, v1, v2]) ∧ Row w' (fun k => w.heap.size ≤ k) 9 1 v1 r.2.1.length (r.2.1.map .string) ∧ Row w' (fun k => w.heap.size ≤ k) 32 7 v2 r.2.2.1.length (MsgV.vals r.2.2.1) ∧ XAt w' (fun k => f k ∨ w.heap.size ≤ k) xb l' gs ∧ l'.map RLife.abs = r.2.2.2 ∧ l'.length ≤ l.length + 1 ∧ Small l' a (b + 64) ∧ Mod f w w'
theorem xhear_none {w w' : World} {f : Nat → Prop} {xb : Nat} {gs : List (Int × Int)} {l : List RLife} {a b : Nat} (h : XAt w f xb l gs) (hs : Small l a b) (hm : Mod (fun _ => False) w w') : XHearEnd w w' f xb gs l a b (.returned (.tuple #[.bool false, .slice none 0 0, .slice none 0 0])) (false, [], [], l.map RLife.abs) :=
  ⟨_, _, l, rfl, Row.nil _ _ _ _, Row.nil _ _ _ _, (h.keep hm fun _ _ f => f).mono fun k hk _ => .inl hk, rfl, Nat.le_succ _, fun X hX => ⟨(hs X hX).1, Nat.le_trans (hs X hX).2 (by omega)⟩, hm.mono fun _ f => f.elim⟩
theorem hput_len {α : Type} {nd : α → Int} {l : List α} {x : α} (ha : Asc nd l) : (hput nd l x).length ≤ l.length + 1 := by
  induction l with
  | nil => simp [hput]
  | cons y l ih =>
    have h1 := List.pairwise_cons.1 ha
    have := ih h1.2
    unfold hput at this ⊢
    simp only [List.length_append, List.length_cons, List.filter_cons] at this ⊢
    by_cases h1 : nd y < nd x
    · have h2 : ¬ nd x < nd y := by omega
      simp [h1, h2] at this ⊢; omega
    · by_cases h2 : nd x < nd y
      · simp [h1, h2] at this ⊢; omega
      · simp [h1, h2] at this ⊢; omega
theorem hput_hput {α : Type} {nd : α → Int} {l : List α} {x y : α} (h : nd x = nd y) : hput nd (hput nd l x) y = hput nd l y := by
  unfold hput
  rw [List.filter_append, List.filter_append, List.filter_cons, List.filter_cons, if_neg (by simp; omega), if_neg (by simp; omega)]
  simp only [List.filter_filter, h]
  congr 1
  · have e : l.filter (fun z => decide (nd z < nd y) && decide (nd y < nd z)) = [] := filter_no fun z _ => by
      by_cases h1 : nd z < nd y
      · have : ¬ nd y < nd z := by omega
        simp [this]
      · simp [h1]
    simp [e]
  · have e : l.filter (fun z => decide (nd y < nd z) && decide (nd z < nd y)) = [] := filter_no fun z _ => by
      by_cases h1 : nd z < nd y
      · have : ¬ nd y < nd z := by omega
        simp [this]
      · simp [h1]
    simp [e]
theorem small_put {l : List RLife} {a b : Nat} (h : Small l a b) {X : RLife} (hX : X.s.l.length ≤ a ∧ X.r.n ≤ b) : Small (hput RLife.node l X) a b := fun Y hY => by
  rcases mem_hput.1 hY with rfl | hY
  · exact hX
  · exact h Y hY.1
set_option maxRecDepth 100000 in
set_option maxHeartbeats 4000000 in
theorem XHear_any {w : World} {f : Nat → Prop} {xb : Nat} {l : List RLife} {gs : List (Int × Int)} (h : XAt w f xb l gs) (m : MsgV) (hok : m.Ok) (G : Int → Option Int) (hG : GoneR G gs) (hl : l.length ≤ 900) (hgl : gs.length ≤ 1000) (a b : Nat) (hsm : Small l a b) (hb : b + 64 ≤ 1000000) :
    Calls Tryz.prog 14 #[.pointer (some ⟨xb, 0, none⟩), .agg m.cells] w fun e w' => XHearEnd w w' f xb gs l a b e (hubHear (l.map RLife.abs) G m) := by
  have HAT := Lib.hid h
  have HSM := Lib.hid hsm
  have HGR := Lib.hid hG
  obtain ⟨lv, gv, pbo, c, h, hbag⟩ := h.open
  obtain ⟨mn, mu, me, mk, ma, ms, mb⟩ := m
  obtain ⟨M, hM⟩ : ∃ M : MsgV, M = ⟨mn, mu, me, mk, ma, ms, mb⟩ := ⟨_, rfl⟩
  have he0 : 0 ≤ me := hok.e0
  have he1 : me < 4294967296 := hok.e1
  rw [← hM]
  have hcells : M.cells = #[.int .i64 mn, .bool mu, .int .u32 me, .int .i64 mk, .int .u32 ma, .int .u32 ms, .string mb] := by rw [hM]; rfl
  rw [hcells]
  have HCS := Lib.hid hcells
  have HOK : Hid M.Ok := Lib.hid (hM ▸ hok)
  have HMM := Lib.hid hM
  have HBG := Lib.hid hbag
  have HH := Lib.hid h
  clear hok hM hcells hsm hG hbag
  by_cases hd : mu = false ∨ (mk ≠ 1 ∧ mk ≠ 2)
  · have HD : Hid (hubHear (l.map RLife.abs) G M = (false, [], [], l.map RLife.abs)) := Lib.hid (by unfold hubHear; rw [HMM.out, if_pos hd])
    clear h
    have fin : ∀ W, Mod (fun _ => False) w W → XHearEnd w W f xb gs l a b (.returned (.tuple #[.bool false, .slice none 0 0, .slice none 0 0])) (hubHear (l.map RLife.abs) G M) := fun W hm => by rw [HD.out]; exact xhear_none HAT.out HSM.out hm
    have FIN := Lib.hid fin
    clear fin
    cases mu with
    | false =>
      clear hd
      go_enter Tryz.func14, Tryz.ntmps14
      go_wp2
      go_ret3
      exact FIN.out _ ((Mod.refl _ _).alloc _)
    | true =>
      rcases (show mk < 1 ∨ (¬ mk < 1 ∧ 2 < mk) by have hd2 := hd.resolve_left (by simp); have := hd2.1; have := hd2.2; omega) with hk | ⟨hk0, hk⟩
      all_goals
        clear hd
        go_enter Tryz.func14, Tryz.ntmps14
        go_wp2
        go_ret3
        exact FIN.out _ ((Mod.refl _ _).alloc _)
  · have hmu : mu = true := by cases mu <;> simp_all
    subst hmu
    have hk1 : ¬ mk < 1 := by
      have : ¬ (mk ≠ 1 ∧ mk ≠ 2) := fun h => hd (.inr h)
      omega
    have hk2 : ¬ 2 < mk := by
      have : ¬ (mk ≠ 1 ∧ mk ≠ 2) := fun h => hd (.inr h)
      omega
    have HND : Hid (¬ (M.up = false ∨ (M.kind ≠ 1 ∧ M.kind ≠ 2))) := Lib.hid (by rw [HMM.out]; exact hd)
    obtain ⟨ga, gc, hgv, hgn, hgm, c1, hgg⟩ := h.formG
    obtain ⟨ad, cp, hlv, hnc, hcm, c0, hg⟩ := h.form
    unfold maxLen at hgm hcm
    subst hgv
    subst hlv
    obtain ⟨n, hnn⟩ : ∃ n, n = l.length := ⟨_, rfl⟩
    obtain ⟨mg, hmm⟩ : ∃ mg, mg = gs.length := ⟨_, rfl⟩
    rw [← hnn] at HH hnc hl c0
    rw [← hmm] at HH hgn hgl c1 hgg
    have HNN := Lib.hid hnn
    have HMG := Lib.hid hmm
    have HG := Lib.hid hg
    have HGG := Lib.hid hgg
    have HC0 := Lib.hid c0
    have HC1 := Lib.hid c1
    obtain ⟨pb, hpb⟩ : ∃ pb, pb = w.heap.size := ⟨_, rfl⟩
    have HPE := Lib.hid hpb
    have hxl : xb < w.heap.size := h.top.lt
    clear h hd hg hgg c0 c1 hnn hmm hpb
    go_enter Tryz.func14, Tryz.ntmps14
    go_wp2_with fail
    rw [← HPE.out]
    go_loopw [7] (fun iv wr => ∃ (k : Nat), k ≤ mg ∧ iv = .int .i64 (k : Int) ∧ (∀ i q, i < k → gs[i]? = some q → q.1 = mn → 0 < Sr.gap q.2 me) ∧ Mod (fun _ => False) w wr ∧ Blk wr pb 32 [.int .i64 mn, .bool true, .int .u32 me, .int .i64 mk, .int .u32 ma, .int .u32 ms, .string mb]) (fun iv _ => mg - (intOf iv).toNat)
    case atStart =>
      refine ⟨0, Nat.zero_le _, rfl, fun i q hi => by omega, ?_, ?_⟩
      · exact (Mod.refl _ _).alloc _
      · rw [HPE.out]; exact allocNew w _
    case round =>
      obtain ⟨k, hk, rfl, hall, hm, hpbk⟩ := hrel
      have HA := Lib.hid hall
      have HM := Lib.hid hm
      have HPB := Lib.hid hpbk
      have c0 := hm.cell (fun f => f) HC0.out
      have c1 := hm.cell (fun f => f) HC1.out
      clear hall hm hpbk
      by_cases hlt : k < mg
      ·
          obtain ⟨g, rfl, _, _, hc⟩ := HGG.out (by have := HMG.out; omega)
          obtain ⟨q, hq⟩ : ∃ q, gs[k]? = some q := ⟨_, List.getElem?_eq_getElem (by have := HMG.out; omega)⟩
          have hki : (k : Int) < (mg : Int) := by omega
          obtain ⟨hq0, hq1⟩ := HH.out.ge q (List.mem_of_getElem? hq)
          have hS : wr.drew.cell? ⟨xb, 1, none⟩ = some (.slice (some ⟨g, 0, none⟩) mg gc) ∧ wr.drew.cell? ⟨g, k * 2, none⟩ = some (.int .i64 q.1) ∧ wr.drew.cell? ⟨g, k * 2 + 1, none⟩ = some (.int .u32 q.2) ∧ wr.drew.cell? ⟨pb, 0, none⟩ = some (.int .i64 mn) ∧ wr.drew.cell? ⟨pb, 2, none⟩ = some (.int .u32 me) := ⟨c1, HM.out.cell (fun f => f) (hc _ _ hq).1, HM.out.cell (fun f => f) (hc _ _ hq).2, HPB.out.cell rfl, HPB.out.cell rfl⟩
          have HQ := Lib.hid hq
          clear hc hq
          by_cases hv : q.1 = mn
          · have hqb : (q.1 == mn) = true := by simp [hv]
            have HQ1 : Hid (q = (mn, q.2)) := Lib.hid (by rw [← hv])
            by_cases hgp : 0 < Sr.gap q.2 me
            · have hqd : decide (Sr.gap q.2 me ≤ 0) = false := decide_eq_false (by omega)
              have HNX : Hid (q.1 = mn → 0 < Sr.gap q.2 me) := Lib.hid fun _ => hgp
              clear hv hgp
              go_wp2_with fail
              refine wp_region_plan [] [(0, 0), (1, 0), (2, 0), (3, 1), (4, 0), (5, 0), (6, 0), (7, 1), (8, 0), (9, 1), (10, 0), (11, 0), (12, 0), (13, 0), (14, 0), (15, 1), (16, 0), (17, 0), (18, 0), (19, 1), (20, 0), (21, 1), (22, 2), (23, 0), (24, 0)] (fun w' : World => w'.cell? ⟨xb, 1, none⟩ = some (.slice (some ⟨g, 0, none⟩) mg gc) ∧ w'.cell? ⟨g, k * 2, none⟩ = some (.int .i64 q.1) ∧ w'.cell? ⟨g, k * 2 + 1, none⟩ = some (.int .u32 q.2) ∧ w'.cell? ⟨pb, 0, none⟩ = some (.int .i64 mn) ∧ w'.cell? ⟨pb, 2, none⟩ = some (.int .u32 me)) (by kernel_rfl) (by kernel_rfl) (fun d _ _ _ _ h => by cases d <;> exact h) ?_
              repeat (first | (refine plan_skip rfl rfl ?_; simp only [List.getElem_toArray, List.getElem_cons_succ, List.getElem_cons_zero, Act.put, List.setIfInBounds_toArray, List.set_cons_zero, List.set_cons_succ]) | (refine plan_pass2 rfl rfl ?_; simp only [List.getElem_toArray, List.getElem_cons_succ, List.getElem_cons_zero, Act.put, List.setIfInBounds_toArray, List.set_cons_zero, List.set_cons_succ]) | (refine plan_pass3 rfl rfl ?_; simp only [List.getElem_toArray, List.getElem_cons_succ, List.getElem_cons_zero, Act.put, List.setIfInBounds_toArray, List.set_cons_zero, List.set_cons_succ]) | (refine plan_take (v := ?_) rfl rfl ?_ ?_; rotate_left; (focus (intro w0; go_simp; try with_reducible rfl)); simp only [List.getElem_toArray, List.getElem_cons_succ, List.getElem_cons_zero, Act.put, List.setIfInBounds_toArray, List.set_cons_zero, List.set_cons_succ]) | (refine plan_held (v := ?_) rfl rfl hS ?_ ?_; rotate_left; (focus (intro w0 hSw; (try dsimp only at hSw); go_split_ands; go_simp; try with_reducible rfl)); simp only [List.getElem_toArray, List.getElem_cons_succ, List.getElem_cons_zero, Act.put, List.setIfInBounds_toArray, List.set_cons_zero, List.set_cons_succ])  | (refine plan_skip1 rfl rfl hS ?_; simp only [List.getElem_toArray, List.getElem_cons_succ, List.getElem_cons_zero, Act.put, List.setIfInBounds_toArray, List.set_cons_zero, List.set_cons_succ]))
              try simp only [hqb]
              repeat (first | (refine plan_skip rfl rfl ?_; simp only [List.getElem_toArray, List.getElem_cons_succ, List.getElem_cons_zero, Act.put, List.setIfInBounds_toArray, List.set_cons_zero, List.set_cons_succ]) | (refine plan_pass2 rfl rfl ?_; simp only [List.getElem_toArray, List.getElem_cons_succ, List.getElem_cons_zero, Act.put, List.setIfInBounds_toArray, List.set_cons_zero, List.set_cons_succ]) | (refine plan_pass3 rfl rfl ?_; simp only [List.getElem_toArray, List.getElem_cons_succ, List.getElem_cons_zero, Act.put, List.setIfInBounds_toArray, List.set_cons_zero, List.set_cons_succ]) | (refine plan_take (v := ?_) rfl rfl ?_ ?_; rotate_left; (focus (intro w0; go_simp; try with_reducible rfl)); simp only [List.getElem_toArray, List.getElem_cons_succ, List.getElem_cons_zero, Act.put, List.setIfInBounds_toArray, List.set_cons_zero, List.set_cons_succ]) | (refine plan_held (v := ?_) rfl rfl hS ?_ ?_; rotate_left; (focus (intro w0 hSw; (try dsimp only at hSw); go_split_ands; go_simp; try with_reducible rfl)); simp only [List.getElem_toArray, List.getElem_cons_succ, List.getElem_cons_zero, Act.put, List.setIfInBounds_toArray, List.set_cons_zero, List.set_cons_succ])  | (refine plan_skip1 rfl rfl hS ?_; simp only [List.getElem_toArray, List.getElem_cons_succ, List.getElem_cons_zero, Act.put, List.setIfInBounds_toArray, List.set_cons_zero, List.set_cons_succ]))
              (refine plan_do rfl rfl fun K hK => ?_; try simp only [List.getElem_toArray, List.getElem_cons_succ, List.getElem_cons_zero])
              go_simp
              refine (refGap_any q.2 me hq0 hq1 he0 he1 _).mono ?_; rintro e w' ⟨rfl, rfl⟩
              refine hK _ _ hS ?_
              clear hK K
              try simp only [List.getElem_toArray, List.getElem_cons_succ, List.getElem_cons_zero, Act.put, List.setIfInBounds_toArray, List.set_cons_zero, List.set_cons_succ]
              try simp only [hqd]
              repeat (first | (refine plan_skip rfl rfl ?_; simp only [List.getElem_toArray, List.getElem_cons_succ, List.getElem_cons_zero, Act.put, List.setIfInBounds_toArray, List.set_cons_zero, List.set_cons_succ]) | (refine plan_pass2 rfl rfl ?_; simp only [List.getElem_toArray, List.getElem_cons_succ, List.getElem_cons_zero, Act.put, List.setIfInBounds_toArray, List.set_cons_zero, List.set_cons_succ]) | (refine plan_pass3 rfl rfl ?_; simp only [List.getElem_toArray, List.getElem_cons_succ, List.getElem_cons_zero, Act.put, List.setIfInBounds_toArray, List.set_cons_zero, List.set_cons_succ]) | (refine plan_take (v := ?_) rfl rfl ?_ ?_; rotate_left; (focus (intro w0; go_simp; try with_reducible rfl)); simp only [List.getElem_toArray, List.getElem_cons_succ, List.getElem_cons_zero, Act.put, List.setIfInBounds_toArray, List.set_cons_zero, List.set_cons_succ]) | (refine plan_held (v := ?_) rfl rfl hS ?_ ?_; rotate_left; (focus (intro w0 hSw; (try dsimp only at hSw); go_split_ands; go_simp; try with_reducible rfl)); simp only [List.getElem_toArray, List.getElem_cons_succ, List.getElem_cons_zero, Act.put, List.setIfInBounds_toArray, List.set_cons_zero, List.set_cons_succ])  | (refine plan_skip1 rfl rfl hS ?_; simp only [List.getElem_toArray, List.getElem_cons_succ, List.getElem_cons_zero, Act.put, List.setIfInBounds_toArray, List.set_cons_zero, List.set_cons_succ]))
              try simp only [hqd]
              repeat (first | (refine plan_skip rfl rfl ?_; simp only [List.getElem_toArray, List.getElem_cons_succ, List.getElem_cons_zero, Act.put, List.setIfInBounds_toArray, List.set_cons_zero, List.set_cons_succ]) | (refine plan_pass2 rfl rfl ?_; simp only [List.getElem_toArray, List.getElem_cons_succ, List.getElem_cons_zero, Act.put, List.setIfInBounds_toArray, List.set_cons_zero, List.set_cons_succ]) | (refine plan_pass3 rfl rfl ?_; simp only [List.getElem_toArray, List.getElem_cons_succ, List.getElem_cons_zero, Act.put, List.setIfInBounds_toArray, List.set_cons_zero, List.set_cons_succ]) | (refine plan_take (v := ?_) rfl rfl ?_ ?_; rotate_left; (focus (intro w0; go_simp; try with_reducible rfl)); simp only [List.getElem_toArray, List.getElem_cons_succ, List.getElem_cons_zero, Act.put, List.setIfInBounds_toArray, List.set_cons_zero, List.set_cons_succ]) | (refine plan_held (v := ?_) rfl rfl hS ?_ ?_; rotate_left; (focus (intro w0 hSw; (try dsimp only at hSw); go_split_ands; go_simp; try with_reducible rfl)); simp only [List.getElem_toArray, List.getElem_cons_succ, List.getElem_cons_zero, Act.put, List.setIfInBounds_toArray, List.set_cons_zero, List.set_cons_succ])  | (refine plan_skip1 rfl rfl hS ?_; simp only [List.getElem_toArray, List.getElem_cons_succ, List.getElem_cons_zero, Act.put, List.setIfInBounds_toArray, List.set_cons_zero, List.set_cons_succ]))
              refine plan_nil ?_
              have HA2 : Hid (∀ i q, i < k + 1 → gs[i]? = some q → q.1 = mn → 0 < Sr.gap q.2 me) := Lib.hid fun i y hi hy hy1 => by
                rcases Nat.lt_or_ge i k with h | h
                · exact HA.out i y h hy hy1
                · obtain rfl : i = k := by omega
                  rw [HQ.out] at hy
                  cases hy
                  exact HNX.out hy1
              clear hS
              go_wp2
              go_roundw
              case rel => exact ⟨k + 1, by omega, by go_num, HA2.out, HM.out.drew, HPB.out⟩
              case measure => simp [intOf]; omega
            · have hqd : decide (Sr.gap q.2 me ≤ 0) = true := decide_eq_true (by omega)
              have HGP : Hid (Sr.gap q.2 me ≤ 0) := Lib.hid (by omega)
              clear hv hgp
              go_wp2_with fail
              refine wp_region_plan [] [(0, 0), (1, 0), (2, 0), (3, 1), (4, 0), (5, 0), (6, 0), (7, 1), (8, 0), (9, 1), (10, 0), (11, 0), (12, 0), (13, 0), (14, 0), (15, 1), (16, 0), (17, 0), (18, 0), (19, 1), (20, 0), (21, 1), (22, 2), (23, 0), (24, 0)] (fun w' : World => w'.cell? ⟨xb, 1, none⟩ = some (.slice (some ⟨g, 0, none⟩) mg gc) ∧ w'.cell? ⟨g, k * 2, none⟩ = some (.int .i64 q.1) ∧ w'.cell? ⟨g, k * 2 + 1, none⟩ = some (.int .u32 q.2) ∧ w'.cell? ⟨pb, 0, none⟩ = some (.int .i64 mn) ∧ w'.cell? ⟨pb, 2, none⟩ = some (.int .u32 me)) (by kernel_rfl) (by kernel_rfl) (fun d _ _ _ _ h => by cases d <;> exact h) ?_
              repeat (first | (refine plan_skip rfl rfl ?_; simp only [List.getElem_toArray, List.getElem_cons_succ, List.getElem_cons_zero, Act.put, List.setIfInBounds_toArray, List.set_cons_zero, List.set_cons_succ]) | (refine plan_pass2 rfl rfl ?_; simp only [List.getElem_toArray, List.getElem_cons_succ, List.getElem_cons_zero, Act.put, List.setIfInBounds_toArray, List.set_cons_zero, List.set_cons_succ]) | (refine plan_pass3 rfl rfl ?_; simp only [List.getElem_toArray, List.getElem_cons_succ, List.getElem_cons_zero, Act.put, List.setIfInBounds_toArray, List.set_cons_zero, List.set_cons_succ]) | (refine plan_take (v := ?_) rfl rfl ?_ ?_; rotate_left; (focus (intro w0; go_simp; try with_reducible rfl)); simp only [List.getElem_toArray, List.getElem_cons_succ, List.getElem_cons_zero, Act.put, List.setIfInBounds_toArray, List.set_cons_zero, List.set_cons_succ]) | (refine plan_held (v := ?_) rfl rfl hS ?_ ?_; rotate_left; (focus (intro w0 hSw; (try dsimp only at hSw); go_split_ands; go_simp; try with_reducible rfl)); simp only [List.getElem_toArray, List.getElem_cons_succ, List.getElem_cons_zero, Act.put, List.setIfInBounds_toArray, List.set_cons_zero, List.set_cons_succ])  | (refine plan_skip1 rfl rfl hS ?_; simp only [List.getElem_toArray, List.getElem_cons_succ, List.getElem_cons_zero, Act.put, List.setIfInBounds_toArray, List.set_cons_zero, List.set_cons_succ]))
              try simp only [hqb]
              repeat (first | (refine plan_skip rfl rfl ?_; simp only [List.getElem_toArray, List.getElem_cons_succ, List.getElem_cons_zero, Act.put, List.setIfInBounds_toArray, List.set_cons_zero, List.set_cons_succ]) | (refine plan_pass2 rfl rfl ?_; simp only [List.getElem_toArray, List.getElem_cons_succ, List.getElem_cons_zero, Act.put, List.setIfInBounds_toArray, List.set_cons_zero, List.set_cons_succ]) | (refine plan_pass3 rfl rfl ?_; simp only [List.getElem_toArray, List.getElem_cons_succ, List.getElem_cons_zero, Act.put, List.setIfInBounds_toArray, List.set_cons_zero, List.set_cons_succ]) | (refine plan_take (v := ?_) rfl rfl ?_ ?_; rotate_left; (focus (intro w0; go_simp; try with_reducible rfl)); simp only [List.getElem_toArray, List.getElem_cons_succ, List.getElem_cons_zero, Act.put, List.setIfInBounds_toArray, List.set_cons_zero, List.set_cons_succ]) | (refine plan_held (v := ?_) rfl rfl hS ?_ ?_; rotate_left; (focus (intro w0 hSw; (try dsimp only at hSw); go_split_ands; go_simp; try with_reducible rfl)); simp only [List.getElem_toArray, List.getElem_cons_succ, List.getElem_cons_zero, Act.put, List.setIfInBounds_toArray, List.set_cons_zero, List.set_cons_succ])  | (refine plan_skip1 rfl rfl hS ?_; simp only [List.getElem_toArray, List.getElem_cons_succ, List.getElem_cons_zero, Act.put, List.setIfInBounds_toArray, List.set_cons_zero, List.set_cons_succ]))
              (refine plan_do rfl rfl fun K hK => ?_; try simp only [List.getElem_toArray, List.getElem_cons_succ, List.getElem_cons_zero])
              go_simp
              refine (refGap_any q.2 me hq0 hq1 he0 he1 _).mono ?_; rintro e w' ⟨rfl, rfl⟩
              refine hK _ _ hS ?_
              clear hK K
              try simp only [List.getElem_toArray, List.getElem_cons_succ, List.getElem_cons_zero, Act.put, List.setIfInBounds_toArray, List.set_cons_zero, List.set_cons_succ]
              try simp only [hqd]
              repeat (first | (refine plan_skip rfl rfl ?_; simp only [List.getElem_toArray, List.getElem_cons_succ, List.getElem_cons_zero, Act.put, List.setIfInBounds_toArray, List.set_cons_zero, List.set_cons_succ]) | (refine plan_pass2 rfl rfl ?_; simp only [List.getElem_toArray, List.getElem_cons_succ, List.getElem_cons_zero, Act.put, List.setIfInBounds_toArray, List.set_cons_zero, List.set_cons_succ]) | (refine plan_pass3 rfl rfl ?_; simp only [List.getElem_toArray, List.getElem_cons_succ, List.getElem_cons_zero, Act.put, List.setIfInBounds_toArray, List.set_cons_zero, List.set_cons_succ]) | (refine plan_take (v := ?_) rfl rfl ?_ ?_; rotate_left; (focus (intro w0; go_simp; try with_reducible rfl)); simp only [List.getElem_toArray, List.getElem_cons_succ, List.getElem_cons_zero, Act.put, List.setIfInBounds_toArray, List.set_cons_zero, List.set_cons_succ]) | (refine plan_held (v := ?_) rfl rfl hS ?_ ?_; rotate_left; (focus (intro w0 hSw; (try dsimp only at hSw); go_split_ands; go_simp; try with_reducible rfl)); simp only [List.getElem_toArray, List.getElem_cons_succ, List.getElem_cons_zero, Act.put, List.setIfInBounds_toArray, List.set_cons_zero, List.set_cons_succ])  | (refine plan_skip1 rfl rfl hS ?_; simp only [List.getElem_toArray, List.getElem_cons_succ, List.getElem_cons_zero, Act.put, List.setIfInBounds_toArray, List.set_cons_zero, List.set_cons_succ]))
              try simp only [hqd]
              repeat (first | (refine plan_skip rfl rfl ?_; simp only [List.getElem_toArray, List.getElem_cons_succ, List.getElem_cons_zero, Act.put, List.setIfInBounds_toArray, List.set_cons_zero, List.set_cons_succ]) | (refine plan_pass2 rfl rfl ?_; simp only [List.getElem_toArray, List.getElem_cons_succ, List.getElem_cons_zero, Act.put, List.setIfInBounds_toArray, List.set_cons_zero, List.set_cons_succ]) | (refine plan_pass3 rfl rfl ?_; simp only [List.getElem_toArray, List.getElem_cons_succ, List.getElem_cons_zero, Act.put, List.setIfInBounds_toArray, List.set_cons_zero, List.set_cons_succ]) | (refine plan_take (v := ?_) rfl rfl ?_ ?_; rotate_left; (focus (intro w0; go_simp; try with_reducible rfl)); simp only [List.getElem_toArray, List.getElem_cons_succ, List.getElem_cons_zero, Act.put, List.setIfInBounds_toArray, List.set_cons_zero, List.set_cons_succ]) | (refine plan_held (v := ?_) rfl rfl hS ?_ ?_; rotate_left; (focus (intro w0 hSw; (try dsimp only at hSw); go_split_ands; go_simp; try with_reducible rfl)); simp only [List.getElem_toArray, List.getElem_cons_succ, List.getElem_cons_zero, Act.put, List.setIfInBounds_toArray, List.set_cons_zero, List.set_cons_succ])  | (refine plan_skip1 rfl rfl hS ?_; simp only [List.getElem_toArray, List.getElem_cons_succ, List.getElem_cons_zero, Act.put, List.setIfInBounds_toArray, List.set_cons_zero, List.set_cons_succ]))
              refine plan_nil ?_
              have HE : Hid (hubHear (l.map RLife.abs) G M = (false, [], [M.refuse], l.map RLife.abs)) := Lib.hid (by
                unfold hubHear
                rw [if_neg HND.out, if_pos]
                have hx : M.node = mn ∧ M.epoch = me := by rw [HMM.out]; exact ⟨rfl, rfl⟩
                rw [hx.1, hx.2, (HGR.out mn q.2).2 (by rw [← HQ1.out]; exact List.mem_of_getElem? HQ.out)]
                simpa using HGP.out)
              have hS7 : wr.drew.drew.cell? ⟨pb, 0, none⟩ = some (.int .i64 mn) ∧ wr.drew.drew.cell? ⟨pb, 2, none⟩ = some (.int .u32 me) := ⟨HPB.out.cell rfl, HPB.out.cell rfl⟩
              clear hS
              go_wp2_with fail
              refine wp_region_plan [] [(0, 0), (1, 1), (2, 0), (3, 1), (4, 0), (6, 0), (7, 0), (5, 2), (8, 0)] (fun w' : World => w'.cell? ⟨pb, 0, none⟩ = some (.int .i64 mn) ∧ w'.cell? ⟨pb, 2, none⟩ = some (.int .u32 me)) (by kernel_rfl) (by kernel_rfl) (fun d _ _ _ _ h => by cases d <;> exact h) ?_
              repeat (first | (refine plan_skip rfl rfl ?_; simp only [List.getElem_toArray, List.getElem_cons_succ, List.getElem_cons_zero, Act.put, List.setIfInBounds_toArray, List.set_cons_zero, List.set_cons_succ]) | (refine plan_pass2 rfl rfl ?_; simp only [List.getElem_toArray, List.getElem_cons_succ, List.getElem_cons_zero, Act.put, List.setIfInBounds_toArray, List.set_cons_zero, List.set_cons_succ]) | (refine plan_pass3 rfl rfl ?_; simp only [List.getElem_toArray, List.getElem_cons_succ, List.getElem_cons_zero, Act.put, List.setIfInBounds_toArray, List.set_cons_zero, List.set_cons_succ]) | (refine plan_take (v := ?_) rfl rfl ?_ ?_; rotate_left; (focus (intro w0; go_simp; try with_reducible rfl)); simp only [List.getElem_toArray, List.getElem_cons_succ, List.getElem_cons_zero, Act.put, List.setIfInBounds_toArray, List.set_cons_zero, List.set_cons_succ]) | (refine plan_held (v := ?_) rfl rfl hS7 ?_ ?_; rotate_left; (focus (intro w0 hSw; (try dsimp only at hSw); go_split_ands; go_simp; try with_reducible rfl)); simp only [List.getElem_toArray, List.getElem_cons_succ, List.getElem_cons_zero, Act.put, List.setIfInBounds_toArray, List.set_cons_zero, List.set_cons_succ])  | (refine plan_skip1 rfl rfl hS7 ?_; simp only [List.getElem_toArray, List.getElem_cons_succ, List.getElem_cons_zero, Act.put, List.setIfInBounds_toArray, List.set_cons_zero, List.set_cons_succ]))
              (refine plan_do rfl rfl fun K hK => ?_; (try simp only [List.getElem_toArray, List.getElem_cons_succ, List.getElem_cons_zero]); go_simp; refine hK _ _ ⟨allocCell _ hS7.1, allocCell _ hS7.2⟩ ?_; clear hK K; try simp only [List.getElem_toArray, List.getElem_cons_succ, List.getElem_cons_zero, Act.put, List.setIfInBounds_toArray, List.set_cons_zero, List.set_cons_succ])
              repeat (first | (refine plan_skip rfl rfl ?_; simp only [List.getElem_toArray, List.getElem_cons_succ, List.getElem_cons_zero, Act.put, List.setIfInBounds_toArray, List.set_cons_zero, List.set_cons_succ]) | (refine plan_pass2 rfl rfl ?_; simp only [List.getElem_toArray, List.getElem_cons_succ, List.getElem_cons_zero, Act.put, List.setIfInBounds_toArray, List.set_cons_zero, List.set_cons_succ]) | (refine plan_pass3 rfl rfl ?_; simp only [List.getElem_toArray, List.getElem_cons_succ, List.getElem_cons_zero, Act.put, List.setIfInBounds_toArray, List.set_cons_zero, List.set_cons_succ]) | (refine plan_take (v := ?_) rfl rfl ?_ ?_; rotate_left; (focus (intro w0; go_simp; try with_reducible rfl)); simp only [List.getElem_toArray, List.getElem_cons_succ, List.getElem_cons_zero, Act.put, List.setIfInBounds_toArray, List.set_cons_zero, List.set_cons_succ]) | fail )
              refine plan_nil ?_
              go_wp2
              go_ret3
              rw [HE.out]
              have hr := Row.made (f := fun k => w.heap.size ≤ k) (cur := M.refuse.cells) (sz := 7) (n := 1) (g := wr.drew.drew.heap.size) (allocNew wr.drew.drew (.cells M.refuse.cells 32)) rfl (by unfold maxLen; omega) (by have := HM.out.size; show w.heap.size ≤ wr.heap.size; omega)
              have hx : M.refuse.cells = #[.int .i64 mn, .bool false, .int .u32 me, .int .i64 3, .int .u32 0, .int .u32 0, .string ⟨#[]⟩] := by rw [HMM.out]; rfl
              have hm := (HM.out.drew.drew).alloc (.cells M.refuse.cells 32)
              rw [hx] at hr hm
              exact ⟨_, _, l, rfl, Row.nil _ _ _ _, by rw [show MsgV.vals [M.refuse] = M.refuse.cells.toList by simp [MsgV.vals], hx]; exact hr, (HAT.out.keep hm fun _ _ f => f).mono fun k hk _ => .inl hk, rfl, Nat.le_succ _, fun X hX => ⟨(HSM.out X hX).1, Nat.le_trans (HSM.out X hX).2 (by omega)⟩, hm.mono fun _ f => f.elim⟩
          · have hqb : (q.1 == mn) = false := by simp [hv]
            have HNX : Hid (q.1 = mn → 0 < Sr.gap q.2 me) := Lib.hid fun h => absurd h hv
            clear hv
            go_wp2_with fail
            refine wp_region_plan [] [(0, 0), (1, 0), (2, 0), (3, 1), (4, 0), (5, 0), (6, 0), (7, 1), (8, 0), (9, 1), (10, 0), (11, 0), (12, 0), (13, 0), (14, 0), (15, 1), (16, 0), (17, 0), (18, 0), (19, 1), (20, 0), (21, 1), (22, 2), (23, 0), (24, 0)] (fun w' : World => w'.cell? ⟨xb, 1, none⟩ = some (.slice (some ⟨g, 0, none⟩) mg gc) ∧ w'.cell? ⟨g, k * 2, none⟩ = some (.int .i64 q.1) ∧ w'.cell? ⟨g, k * 2 + 1, none⟩ = some (.int .u32 q.2) ∧ w'.cell? ⟨pb, 0, none⟩ = some (.int .i64 mn) ∧ w'.cell? ⟨pb, 2, none⟩ = some (.int .u32 me)) (by kernel_rfl) (by kernel_rfl) (fun d _ _ _ _ h => by cases d <;> exact h) ?_
            repeat (first | (refine plan_skip rfl rfl ?_; simp only [List.getElem_toArray, List.getElem_cons_succ, List.getElem_cons_zero, Act.put, List.setIfInBounds_toArray, List.set_cons_zero, List.set_cons_succ]) | (refine plan_pass2 rfl rfl ?_; simp only [List.getElem_toArray, List.getElem_cons_succ, List.getElem_cons_zero, Act.put, List.setIfInBounds_toArray, List.set_cons_zero, List.set_cons_succ]) | (refine plan_pass3 rfl rfl ?_; simp only [List.getElem_toArray, List.getElem_cons_succ, List.getElem_cons_zero, Act.put, List.setIfInBounds_toArray, List.set_cons_zero, List.set_cons_succ]) | (refine plan_take (v := ?_) rfl rfl ?_ ?_; rotate_left; (focus (intro w0; go_simp; try with_reducible rfl)); simp only [List.getElem_toArray, List.getElem_cons_succ, List.getElem_cons_zero, Act.put, List.setIfInBounds_toArray, List.set_cons_zero, List.set_cons_succ]) | (refine plan_held (v := ?_) rfl rfl hS ?_ ?_; rotate_left; (focus (intro w0 hSw; (try dsimp only at hSw); go_split_ands; go_simp; try with_reducible rfl)); simp only [List.getElem_toArray, List.getElem_cons_succ, List.getElem_cons_zero, Act.put, List.setIfInBounds_toArray, List.set_cons_zero, List.set_cons_succ])  | (refine plan_skip1 rfl rfl hS ?_; simp only [List.getElem_toArray, List.getElem_cons_succ, List.getElem_cons_zero, Act.put, List.setIfInBounds_toArray, List.set_cons_zero, List.set_cons_succ]))
            try simp only [hqb]
            repeat (first | (refine plan_skip rfl rfl ?_; simp only [List.getElem_toArray, List.getElem_cons_succ, List.getElem_cons_zero, Act.put, List.setIfInBounds_toArray, List.set_cons_zero, List.set_cons_succ]) | (refine plan_pass2 rfl rfl ?_; simp only [List.getElem_toArray, List.getElem_cons_succ, List.getElem_cons_zero, Act.put, List.setIfInBounds_toArray, List.set_cons_zero, List.set_cons_succ]) | (refine plan_pass3 rfl rfl ?_; simp only [List.getElem_toArray, List.getElem_cons_succ, List.getElem_cons_zero, Act.put, List.setIfInBounds_toArray, List.set_cons_zero, List.set_cons_succ]) | (refine plan_take (v := ?_) rfl rfl ?_ ?_; rotate_left; (focus (intro w0; go_simp; try with_reducible rfl)); simp only [List.getElem_toArray, List.getElem_cons_succ, List.getElem_cons_zero, Act.put, List.setIfInBounds_toArray, List.set_cons_zero, List.set_cons_succ]) | (refine plan_held (v := ?_) rfl rfl hS ?_ ?_; rotate_left; (focus (intro w0 hSw; (try dsimp only at hSw); go_split_ands; go_simp; try with_reducible rfl)); simp only [List.getElem_toArray, List.getElem_cons_succ, List.getElem_cons_zero, Act.put, List.setIfInBounds_toArray, List.set_cons_zero, List.set_cons_succ])  | (refine plan_skip1 rfl rfl hS ?_; simp only [List.getElem_toArray, List.getElem_cons_succ, List.getElem_cons_zero, Act.put, List.setIfInBounds_toArray, List.set_cons_zero, List.set_cons_succ]))
            refine plan_nil ?_
            have HA2 : Hid (∀ i q, i < k + 1 → gs[i]? = some q → q.1 = mn → 0 < Sr.gap q.2 me) := Lib.hid fun i y hi hy hy1 => by
              rcases Nat.lt_or_ge i k with h | h
              · exact HA.out i y h hy hy1
              · obtain rfl : i = k := by omega
                rw [HQ.out] at hy
                cases hy
                exact HNX.out hy1
            clear hS
            go_wp2
            go_roundw
            case rel => exact ⟨k + 1, by omega, by go_num, HA2.out, HM.out.drew, HPB.out⟩
            case measure => simp [intOf]; omega
      · obtain rfl : k = mg := by omega
        have HNO : Hid ((M.node = mn ∧ M.epoch = me) ∧ ¬ (G M.node).any (fun e => !decide (0 < Sr.gap e M.epoch)) = true) := Lib.hid (by
          have hx : M.node = mn ∧ M.epoch = me := by rw [HMM.out]; exact ⟨rfl, rfl⟩
          refine ⟨hx, ?_⟩
          rw [hx.1, hx.2]
          cases hgm : G mn with
          | none => simp
          | some e =>
            obtain ⟨i, hi, he⟩ := List.getElem_of_mem ((HGR.out mn e).1 hgm)
            have := HA.out i (mn, e) (by rw [HMG.out]; exact hi) (by rw [List.getElem?_eq_getElem hi, he]) rfl
            simp [this])
        have hki : ¬ (k : Int) < (k : Int) := by omega
        obtain ⟨cA, hcA⟩ : ∃ cA, cA = dyed c w (.inr 9) := ⟨_, rfl⟩
        have HX1 : Hid (XIn wr xb l gs (.slice ad n cp) (.slice ga k gc) pbo cA) := Lib.hid (by rw [hcA]; exact HH.out.grow HM.out (fun _ _ f => f) (.inr 9))
        have HB1 : Hid (Bag w wr f cA) := Lib.hid (by rw [hcA]; exact HBG.out.step HM.out (fun _ f => f.elim) (.inr 9))
        have HCA : Hid (cA pb = .inr 9) := Lib.hid (by rw [hcA, HPE.out]; exact dyed_new (Nat.le_refl _))
        clear hcA
        have HX := Lib.hid (HH.out.keep HM.out fun _ _ f => f)
        have HFX := Lib.hid (XFind_any HX.out mn)
        have kb0 := HPB.out.cell (j := 0) rfl
        go_wp2_with fail
        refine HFX.out.mono ?_; rintro e w1 ⟨i, rfl, hp, rfl⟩
        clear kb0
        rcases hp with ⟨rfl, hn⟩ | ⟨j, X, rfl, hj, hXn, hn⟩
        ·
            have HE : Hid (hubHear (l.map RLife.abs) G M = hubNew (l.map RLife.abs) M) := Lib.hid (by
              unfold hubHear
              rw [if_neg HND.out, if_neg HNO.out.2, HNO.out.1.1, hfind_map (nd := RLife.node) RLife.abs abs_node, hn]
              rfl)
            clear hn
            go_wp2_with fail
            refine wp_region_plan [] [(0, 0), (1, 0), (2, 0), (3, 0), (4, 0), (5, 0), (6, 1), (7, 0), (8, 0), (9, 1), (10, 0), (11, 0), (12, 1), (13, 0), (14, 1), (15, 2), (16, 0), (17, 0)] (fun w' : World => True) (by kernel_rfl) (by kernel_rfl) (fun d _ _ _ _ h => by cases d <;> exact h) ?_
            repeat (first | (refine plan_skip rfl rfl ?_; simp only [List.getElem_toArray, List.getElem_cons_succ, List.getElem_cons_zero, Act.put, List.setIfInBounds_toArray, List.set_cons_zero, List.set_cons_succ]) | (refine plan_pass2 rfl rfl ?_; simp only [List.getElem_toArray, List.getElem_cons_succ, List.getElem_cons_zero, Act.put, List.setIfInBounds_toArray, List.set_cons_zero, List.set_cons_succ]) | (refine plan_pass3 rfl rfl ?_; simp only [List.getElem_toArray, List.getElem_cons_succ, List.getElem_cons_zero, Act.put, List.setIfInBounds_toArray, List.set_cons_zero, List.set_cons_succ]) | (refine plan_take (v := ?_) rfl rfl ?_ ?_; rotate_left; (focus (intro w0; go_simp; try with_reducible rfl)); simp only [List.getElem_toArray, List.getElem_cons_succ, List.getElem_cons_zero, Act.put, List.setIfInBounds_toArray, List.set_cons_zero, List.set_cons_succ]) | (refine plan_held (v := ?_) rfl rfl trivial ?_ ?_; rotate_left; (focus (intro w0 hSw; (try dsimp only at hSw); go_split_ands; go_simp; try with_reducible rfl)); simp only [List.getElem_toArray, List.getElem_cons_succ, List.getElem_cons_zero, Act.put, List.setIfInBounds_toArray, List.set_cons_zero, List.set_cons_succ])  | (refine plan_skip1 rfl rfl trivial ?_; simp only [List.getElem_toArray, List.getElem_cons_succ, List.getElem_cons_zero, Act.put, List.setIfInBounds_toArray, List.set_cons_zero, List.set_cons_succ]))
            refine plan_nil ?_
            have kb0 : w1.drew.cell? ⟨pb, 0, none⟩ = some (.int .i64 mn) := HPB.out.cell rfl
            have kb2 : w1.drew.cell? ⟨pb, 2, none⟩ = some (.int .u32 me) := HPB.out.cell rfl
            go_wp2_with fail
            refine (RNew_any mn false me _ he0 he1).mono ?_; rintro e w3 ⟨p, rfl, hx3, hm3⟩
            have hm3' := Mod.ofDrew hm3
            clear kb0 kb2
            have HX3 := Lib.hid (HX1.out.grow hm3' (fun _ _ f => f) (.inl mn))
            have HB3 := Lib.hid (HB1.out.step hm3' (fun _ f => f.elim) (.inl mn))
            have HF3 : Hid (RLifeAt w3 p (fun k => dyed cA w1 (.inl mn) k = .inl (RLife.fresh mn false me).node) (RLife.fresh mn false me)) := Lib.hid (hx3.mono fun k hk _ => dyed_new hk)
            have hpw1 : pb < w1.heap.size := HPB.out.lt
            have hcp3 : dyed cA w1 (.inl mn) pb = .inr 9 := by rw [dyed_old hpw1]; exact HCA.out
            have HPB3 := Lib.hid (Blk.keep HPB.out hm3' fun f => f)
            have HM3 := Lib.hid (HM.out.trans hm3' fun _ f => f.elim)
            generalize hc3 : dyed cA w1 (.inl mn) = c3 at HX3 HB3 HF3 hcp3
            clear hc3 hx3 hm3 hm3'
            go_wp2_with fail
            refine (put_any HX3.out HF3.out (by have := HNN.out; omega)).mono ?_; rintro e w4 ⟨rfl, lv4, hx4, hm4⟩
            have hpw3 : pb < w3.heap.size := HPB3.out.lt
            have HB4 := Lib.hid (HB3.out.step hm4 (fun k hk => by rw [hk]; decide) (.inr 1))
            have HPB4 := Lib.hid (HPB3.out.keep hm4 (fun e => by rw [hcp3] at e; cases e))
            have HXW := Lib.hid hx4
            have hcp4 : dyed c3 w3 (.inr 1) pb = .inr 9 := by rw [dyed_old hpw3]; exact hcp3
            have HMW4 : Hid (w.heap.size ≤ w4.heap.size) := Lib.hid (Nat.le_trans HM3.out.size hm4.size)
            generalize hc4 : dyed c3 w3 (.inr 1) = c2 at HB4 HXW hcp4
            generalize hpb4 : (fun n => if n = (RLife.fresh mn false me).node then p else pbo n) = pb2 at HXW
            clear hc4 hpb4 hx4 hm4
            have HCPB := Lib.hid hcp4
            have HFX4 := Lib.hid (XFind_any HXW.out mn)
            have kb0 := HPB4.out.cell (j := 0) rfl
            clear hcp3 hcp4
            go_wp2_with fail
            refine HFX4.out.mono ?_; rintro e w2 ⟨i2, rfl, hp2, rfl⟩
            clear kb0
            have hfr : hfind RLife.node (hput RLife.node l (RLife.fresh mn false me)) mn = some (RLife.fresh mn false me) := (hfind_hput HH.out.asc (RLife.fresh mn false me) mn).trans (if_pos rfl)
            rcases hp2 with ⟨rfl, hn2⟩ | ⟨j, X, rfl, hj2, hXn2, hn2⟩
            · rw [hfr] at hn2; cases hn2
            · obtain rfl : RLife.fresh mn false me = X := by rw [hfr] at hn2; cases hn2; rfl
              obtain ⟨X, hXF⟩ : ∃ X, X = RLife.fresh mn false me := ⟨_, rfl⟩
              rw [← hXF] at hj2 hfr HXW
              have HJ := Lib.hid hj2
              have HXN : Hid (X.node = mn) := Lib.hid (by rw [hXF]; rfl)
              have HFW := Lib.hid hfr
              have HBW := Lib.hid HB4.out
              have HPBW := Lib.hid HPB4.out
              have HMW : Hid (∃ h : w.heap.size ≤ w2.heap.size, True) := Lib.hid ⟨HMW4.out, trivial⟩
              have HSL : Hid (X.s.l.length ≤ a ∧ X.r.n ≤ b) := Lib.hid (by rw [hXF]; exact ⟨Nat.zero_le _, Nat.zero_le _⟩)
              have HPP : Hid (∀ Y : RLife, Y.node = mn → hput RLife.node (hput RLife.node l X) Y = hput RLife.node l Y) := Lib.hid fun Y hY => hput_hput (by rw [hXF, hY]; rfl)
              have HRR : Hid (X.epoch = me → hubHear (l.map RLife.abs) G M = (true, (X.abs.hear M).1, [], hput Life.node (l.map RLife.abs) (X.abs.hear M).2)) := Lib.hid fun _ => by
                rw [HE.out]
                unfold hubNew
                rw [HNO.out.1.1, HNO.out.1.2, hXF, fresh_abs]
              have hep : X.epoch = me := by rw [hXF]; rfl
              have HEP := Lib.hid hep
              clear hep
              clear hj2 hXn2 hn2 hfr hXF HFX4 HB4 HPB4 HMW4 HB3 HX3 HF3 HPB3
              obtain ⟨ad2, cp2, hlv2, hnc2, hcm2, d0, hg2⟩ := HXW.out.form
              obtain ⟨nl, hnl⟩ : ∃ nl, nl = (hput RLife.node l X).length := ⟨_, rfl⟩
              have hjl2 : j < (hput RLife.node l X).length := (List.getElem?_eq_some_iff.1 HJ.out).1
              rw [← hnl] at hlv2 hnc2 hg2 hjl2
              obtain ⟨g, hge, hgc2, hgl2, hcell2⟩ := hg2 (by omega)
              subst hge
              rw [hlv2] at d0
              have x0 := hcell2 j X HJ.out
              have x2 := HXW.out.epochAt HJ.out
              have hji : (j : Int) < (nl : Int) := by omega
              have hS12 : w2.drew.cell? ⟨xb, 0, none⟩ = some (.slice (some ⟨g, 0, none⟩) nl cp2) ∧ w2.drew.cell? ⟨g, j, none⟩ = some (.pointer (some ⟨pb2 X.node, 0, none⟩)) ∧ w2.drew.cell? ⟨pb2 X.node, 2, none⟩ = some (.int .u32 X.epoch) ∧ w2.drew.cell? ⟨pb, 2, none⟩ = some (.int .u32 me) := ⟨d0, x0, x2, HPBW.out.cell rfl⟩
              have hS14 : w2.drew.drew.cell? ⟨xb, 0, none⟩ = some (.slice (some ⟨g, 0, none⟩) nl cp2) ∧ w2.drew.drew.cell? ⟨g, j, none⟩ = some (.pointer (some ⟨pb2 X.node, 0, none⟩)) ∧ w2.drew.drew.cell? ⟨pb, 0, none⟩ = some (.int .i64 mn) ∧ w2.drew.drew.cell? ⟨pb, 1, none⟩ = some (.bool true) ∧ w2.drew.drew.cell? ⟨pb, 2, none⟩ = some (.int .u32 me) ∧ w2.drew.drew.cell? ⟨pb, 3, none⟩ = some (.int .i64 mk) ∧ w2.drew.drew.cell? ⟨pb, 4, none⟩ = some (.int .u32 ma) ∧ w2.drew.drew.cell? ⟨pb, 5, none⟩ = some (.int .u32 ms) ∧ w2.drew.drew.cell? ⟨pb, 6, none⟩ = some (.string mb) := ⟨d0, x0, HPBW.out.cell rfl, HPBW.out.cell rfl, HPBW.out.cell rfl, HPBW.out.cell rfl, HPBW.out.cell rfl, HPBW.out.cell rfl, HPBW.out.cell rfl⟩
              have HGC2 := Lib.hid hgc2
              unfold maxLen at hcm2
              have HNL := Lib.hid hnl
              clear hg2 hgc2 hcell2 x0 x2 d0 hlv2 hnl
              go_wp2_with fail
              by_cases hee : X.epoch = me
              · have hbe : (X.epoch != me) = false := by simp [hee]
                have HR := Lib.hid (HRR.out hee)
                clear hee
                refine wp_region_plan [] [(0, 0), (1, 0), (2, 0), (3, 1), (4, 0), (5, 0), (6, 1), (7, 0), (8, 0), (9, 1), (10, 0), (11, 1), (12, 0)] (fun w' : World => w'.cell? ⟨xb, 0, none⟩ = some (.slice (some ⟨g, 0, none⟩) nl cp2) ∧ w'.cell? ⟨g, j, none⟩ = some (.pointer (some ⟨pb2 X.node, 0, none⟩)) ∧ w'.cell? ⟨pb2 X.node, 2, none⟩ = some (.int .u32 X.epoch) ∧ w'.cell? ⟨pb, 2, none⟩ = some (.int .u32 me)) (by kernel_rfl) (by kernel_rfl) (fun d _ _ _ _ h => by cases d <;> exact h) ?_
                repeat (first | (refine plan_skip rfl rfl ?_; simp only [List.getElem_toArray, List.getElem_cons_succ, List.getElem_cons_zero, Act.put, List.setIfInBounds_toArray, List.set_cons_zero, List.set_cons_succ]) | (refine plan_pass2 rfl rfl ?_; simp only [List.getElem_toArray, List.getElem_cons_succ, List.getElem_cons_zero, Act.put, List.setIfInBounds_toArray, List.set_cons_zero, List.set_cons_succ]) | (refine plan_pass3 rfl rfl ?_; simp only [List.getElem_toArray, List.getElem_cons_succ, List.getElem_cons_zero, Act.put, List.setIfInBounds_toArray, List.set_cons_zero, List.set_cons_succ]) | (refine plan_take (v := ?_) rfl rfl ?_ ?_; rotate_left; (focus (intro w0; go_simp; try with_reducible rfl)); simp only [List.getElem_toArray, List.getElem_cons_succ, List.getElem_cons_zero, Act.put, List.setIfInBounds_toArray, List.set_cons_zero, List.set_cons_succ]) | (refine plan_held (v := ?_) rfl rfl hS12 ?_ ?_; rotate_left; (focus (intro w0 hSw; (try dsimp only at hSw); go_split_ands; go_simp; try with_reducible rfl)); simp only [List.getElem_toArray, List.getElem_cons_succ, List.getElem_cons_zero, Act.put, List.setIfInBounds_toArray, List.set_cons_zero, List.set_cons_succ])  | (refine plan_skip1 rfl rfl hS12 ?_; simp only [List.getElem_toArray, List.getElem_cons_succ, List.getElem_cons_zero, Act.put, List.setIfInBounds_toArray, List.set_cons_zero, List.set_cons_succ]))
                try simp only [hbe]
                repeat (first | (refine plan_skip rfl rfl ?_; simp only [List.getElem_toArray, List.getElem_cons_succ, List.getElem_cons_zero, Act.put, List.setIfInBounds_toArray, List.set_cons_zero, List.set_cons_succ]) | (refine plan_pass2 rfl rfl ?_; simp only [List.getElem_toArray, List.getElem_cons_succ, List.getElem_cons_zero, Act.put, List.setIfInBounds_toArray, List.set_cons_zero, List.set_cons_succ]) | (refine plan_pass3 rfl rfl ?_; simp only [List.getElem_toArray, List.getElem_cons_succ, List.getElem_cons_zero, Act.put, List.setIfInBounds_toArray, List.set_cons_zero, List.set_cons_succ]) | (refine plan_take (v := ?_) rfl rfl ?_ ?_; rotate_left; (focus (intro w0; go_simp; try with_reducible rfl)); simp only [List.getElem_toArray, List.getElem_cons_succ, List.getElem_cons_zero, Act.put, List.setIfInBounds_toArray, List.set_cons_zero, List.set_cons_succ]) | (refine plan_held (v := ?_) rfl rfl hS12 ?_ ?_; rotate_left; (focus (intro w0 hSw; (try dsimp only at hSw); go_split_ands; go_simp; try with_reducible rfl)); simp only [List.getElem_toArray, List.getElem_cons_succ, List.getElem_cons_zero, Act.put, List.setIfInBounds_toArray, List.set_cons_zero, List.set_cons_succ])  | (refine plan_skip1 rfl rfl hS12 ?_; simp only [List.getElem_toArray, List.getElem_cons_succ, List.getElem_cons_zero, Act.put, List.setIfInBounds_toArray, List.set_cons_zero, List.set_cons_succ]))
                refine plan_nil ?_
                clear hS12
                go_wp2_with fail
                refine wp_region_plan [] [(0, 0), (1, 0), (2, 0), (3, 0), (4, 1), (5, 0), (6, 0), (7, 1), (8, 1), (9, 2), (10, 0), (11, 0), (12, 0)] (fun w' : World => w'.cell? ⟨xb, 0, none⟩ = some (.slice (some ⟨g, 0, none⟩) nl cp2) ∧ w'.cell? ⟨g, j, none⟩ = some (.pointer (some ⟨pb2 X.node, 0, none⟩)) ∧ w'.cell? ⟨pb, 0, none⟩ = some (.int .i64 mn) ∧ w'.cell? ⟨pb, 1, none⟩ = some (.bool true) ∧ w'.cell? ⟨pb, 2, none⟩ = some (.int .u32 me) ∧ w'.cell? ⟨pb, 3, none⟩ = some (.int .i64 mk) ∧ w'.cell? ⟨pb, 4, none⟩ = some (.int .u32 ma) ∧ w'.cell? ⟨pb, 5, none⟩ = some (.int .u32 ms) ∧ w'.cell? ⟨pb, 6, none⟩ = some (.string mb)) (by kernel_rfl) (by kernel_rfl) (fun d _ _ _ _ h => by cases d <;> exact h) ?_
                repeat (first | (refine plan_skip rfl rfl ?_; simp only [List.getElem_toArray, List.getElem_cons_succ, List.getElem_cons_zero, Act.put, List.setIfInBounds_toArray, List.set_cons_zero, List.set_cons_succ]) | (refine plan_pass2 rfl rfl ?_; simp only [List.getElem_toArray, List.getElem_cons_succ, List.getElem_cons_zero, Act.put, List.setIfInBounds_toArray, List.set_cons_zero, List.set_cons_succ]) | (refine plan_pass3 rfl rfl ?_; simp only [List.getElem_toArray, List.getElem_cons_succ, List.getElem_cons_zero, Act.put, List.setIfInBounds_toArray, List.set_cons_zero, List.set_cons_succ]) | (refine plan_take (v := ?_) rfl rfl ?_ ?_; rotate_left; (focus (intro w0; go_simp; try with_reducible rfl)); simp only [List.getElem_toArray, List.getElem_cons_succ, List.getElem_cons_zero, Act.put, List.setIfInBounds_toArray, List.set_cons_zero, List.set_cons_succ]) | (refine plan_held (v := ?_) rfl rfl hS14 ?_ ?_; rotate_left; (focus (intro w0 hSw; (try dsimp only at hSw); go_split_ands; go_simp; try with_reducible rfl)); simp only [List.getElem_toArray, List.getElem_cons_succ, List.getElem_cons_zero, Act.put, List.setIfInBounds_toArray, List.set_cons_zero, List.set_cons_succ])  | (refine plan_skip1 rfl rfl hS14 ?_; simp only [List.getElem_toArray, List.getElem_cons_succ, List.getElem_cons_zero, Act.put, List.setIfInBounds_toArray, List.set_cons_zero, List.set_cons_succ]))
                have hlife := (HXW.out.life HFW.out).2
                have HLIFE := Lib.hid hlife
                clear hlife
                (refine plan_do rfl rfl fun K hK => ?_; try simp only [List.getElem_toArray, List.getElem_cons_succ, List.getElem_cons_zero])
                go_simp
                rw [← HCS.out]
                have hXN := HXN.out
                rw [hXN]
                refine (Rhear_any (pb2 mn) _ X M _ HLIFE.out.drew.drew HOK.out (by have := HSL.out.2; omega)).mono ?_; rintro e w5 ⟨v5, X', rfl, hv5, hl5, habs, hsl5, hrn5, hm5⟩
                have hm5' : Mod (fun k => c2 k = .inl mn) w2 w5 := Mod.ofDrew (Mod.ofDrew hm5)
                rw [hXN] at hS14
                refine hK _ _ (by
                  rw [hXN]
                  have hnx : ¬ c2 xb = .inl mn := fun e => by rw [HXW.out.f0] at e; cases e
                  have hng : ¬ c2 g = .inl mn := fun e => by rw [HGC2.out] at e; cases e
                  have hnp : ¬ c2 pb = .inl mn := fun e => by rw [HCPB.out] at e; cases e
                  exact ⟨hm5.cell hnx hS14.1, hm5.cell hng hS14.2.1, hm5.cell hnp hS14.2.2.1, hm5.cell hnp hS14.2.2.2.1, hm5.cell hnp hS14.2.2.2.2.1, hm5.cell hnp hS14.2.2.2.2.2.1, hm5.cell hnp hS14.2.2.2.2.2.2.1, hm5.cell hnp hS14.2.2.2.2.2.2.2.1, hm5.cell hnp hS14.2.2.2.2.2.2.2.2⟩) ?_
                clear hK K hS14
                try simp only [List.getElem_toArray, List.getElem_cons_succ, List.getElem_cons_zero, Act.put, List.setIfInBounds_toArray, List.set_cons_zero, List.set_cons_succ]
                have hX'n : X'.node = mn := by
                  have := congrArg Life.node habs
                  rw [Life.hear_node] at this
                  exact this.trans hXN
                have hset := HXW.out.set HFW.out (L' := X') hX'n hl5 hm5'
                have hfin : XHearEnd w w5 f xb gs l a b (.returned (.tuple #[.bool true, v5, .slice none 0 0])) (hubHear (l.map RLife.abs) G M) := by
                  rw [HR.out]
                  obtain ⟨hs, _⟩ := HMW.out
                  obtain ⟨h1, h2⟩ := hset.shut (HBW.out.step hm5' (fun k hk => inl_ne hk) (.inl mn))
                  first | rw [HPP.out X' hX'n] at h1 | skip
                  refine ⟨_, _, hput RLife.node l X', rfl, hv5.mono fun k hk => Nat.le_trans hs hk, Row.nil _ _ _ _, h1, ?_, hput_len HH.out.asc, small_put (fun Y hY => ⟨(HSM.out Y hY).1, Nat.le_trans (HSM.out Y hY).2 (by omega)⟩) ⟨by rw [hsl5]; exact HSL.out.1, by have := HSL.out.2; omega⟩, h2⟩
                  rw [← hput_map (nd := RLife.node) RLife.abs abs_node, habs]
                have HFIN := Lib.hid hfin
                clear hv5 hl5 habs hsl5 hrn5 hm5 hm5' hset hX'n hfin hXN
                repeat (first | (refine plan_skip rfl rfl ?_; simp only [List.getElem_toArray, List.getElem_cons_succ, List.getElem_cons_zero, Act.put, List.setIfInBounds_toArray, List.set_cons_zero, List.set_cons_succ]) | (refine plan_pass2 rfl rfl ?_; simp only [List.getElem_toArray, List.getElem_cons_succ, List.getElem_cons_zero, Act.put, List.setIfInBounds_toArray, List.set_cons_zero, List.set_cons_succ]) | (refine plan_pass3 rfl rfl ?_; simp only [List.getElem_toArray, List.getElem_cons_succ, List.getElem_cons_zero, Act.put, List.setIfInBounds_toArray, List.set_cons_zero, List.set_cons_succ]) | (refine plan_take (v := ?_) rfl rfl ?_ ?_; rotate_left; (focus (intro w0; go_simp; try with_reducible rfl)); simp only [List.getElem_toArray, List.getElem_cons_succ, List.getElem_cons_zero, Act.put, List.setIfInBounds_toArray, List.set_cons_zero, List.set_cons_succ]) | fail )
                refine plan_nil ?_
                go_wp2
                go_ret3
                exact HFIN.out
              · exact absurd HEP.out hee
        ·
            skip
            have HJ := Lib.hid hj
            have HXN := Lib.hid hXn
            have HFW0 := Lib.hid hn
            clear hj hXn hn
            have hjl : j < n := by rw [HNN.out]; exact (List.getElem?_eq_some_iff.1 HJ.out).1
            obtain ⟨g, hge, hgc2, hgl2, hcell2⟩ := HG.out (by have := HNN.out; omega)
            subst hge
            have hji : (j : Int) < (n : Int) := by omega
            have hj0 : ¬ ((j : Int) < 0) := by omega
            have hj1 : decide ((j : Int) < 0) = false := decide_eq_false hj0
            obtain ⟨hx0, hx1⟩ := (HH.out.fam X (List.mem_of_getElem? HJ.out)).1
            have hS9 : w1.drew.cell? ⟨xb, 0, none⟩ = some (.slice (some ⟨g, 0, none⟩) n cp) ∧ w1.drew.cell? ⟨g, j, none⟩ = some (.pointer (some ⟨pbo X.node, 0, none⟩)) ∧ w1.drew.cell? ⟨pbo X.node, 2, none⟩ = some (.int .u32 X.epoch) ∧ w1.drew.cell? ⟨pb, 2, none⟩ = some (.int .u32 me) := ⟨c0, HM.out.cell (fun f => f) (hcell2 j X HJ.out), HM.out.cell (fun f => f) (HH.out.epochAt HJ.out), HPB.out.cell rfl⟩
            clear hcell2
            by_cases hgp : 0 < Sr.gap X.epoch me
            · have hgd : decide (0 < Sr.gap X.epoch me) = true := decide_eq_true hgp
              have HE : Hid (hubHear (l.map RLife.abs) G M = hubNew (l.map RLife.abs) M) := Lib.hid (by
                unfold hubHear
                rw [if_neg HND.out, if_neg HNO.out.2, HNO.out.1.1, HNO.out.1.2, hfind_map (nd := RLife.node) RLife.abs abs_node, HFW0.out]
                exact if_pos hgp)
              clear hgp
              go_wp2_with fail
              refine wp_region_plan [] [(0, 0), (1, 0), (2, 0), (3, 0), (4, 0), (5, 0), (6, 1), (7, 0), (8, 0), (9, 1), (10, 0), (11, 0), (12, 1), (13, 0), (14, 1), (15, 2), (16, 0), (17, 0)] (fun w' : World => w'.cell? ⟨xb, 0, none⟩ = some (.slice (some ⟨g, 0, none⟩) n cp) ∧ w'.cell? ⟨g, j, none⟩ = some (.pointer (some ⟨pbo X.node, 0, none⟩)) ∧ w'.cell? ⟨pbo X.node, 2, none⟩ = some (.int .u32 X.epoch) ∧ w'.cell? ⟨pb, 2, none⟩ = some (.int .u32 me)) (by kernel_rfl) (by kernel_rfl) (fun d _ _ _ _ h => by cases d <;> exact h) ?_
              repeat (first | (refine plan_skip rfl rfl ?_; simp only [List.getElem_toArray, List.getElem_cons_succ, List.getElem_cons_zero, Act.put, List.setIfInBounds_toArray, List.set_cons_zero, List.set_cons_succ]) | (refine plan_pass2 rfl rfl ?_; simp only [List.getElem_toArray, List.getElem_cons_succ, List.getElem_cons_zero, Act.put, List.setIfInBounds_toArray, List.set_cons_zero, List.set_cons_succ]) | (refine plan_pass3 rfl rfl ?_; simp only [List.getElem_toArray, List.getElem_cons_succ, List.getElem_cons_zero, Act.put, List.setIfInBounds_toArray, List.set_cons_zero, List.set_cons_succ]) | (refine plan_take (v := ?_) rfl rfl ?_ ?_; rotate_left; (focus (intro w0; go_simp; try with_reducible rfl)); simp only [List.getElem_toArray, List.getElem_cons_succ, List.getElem_cons_zero, Act.put, List.setIfInBounds_toArray, List.set_cons_zero, List.set_cons_succ]) | (refine plan_held (v := ?_) rfl rfl hS9 ?_ ?_; rotate_left; (focus (intro w0 hSw; (try dsimp only at hSw); go_split_ands; go_simp; try with_reducible rfl)); simp only [List.getElem_toArray, List.getElem_cons_succ, List.getElem_cons_zero, Act.put, List.setIfInBounds_toArray, List.set_cons_zero, List.set_cons_succ])  | (refine plan_skip1 rfl rfl hS9 ?_; simp only [List.getElem_toArray, List.getElem_cons_succ, List.getElem_cons_zero, Act.put, List.setIfInBounds_toArray, List.set_cons_zero, List.set_cons_succ]))
              try simp only [hj1]
              repeat (first | (refine plan_skip rfl rfl ?_; simp only [List.getElem_toArray, List.getElem_cons_succ, List.getElem_cons_zero, Act.put, List.setIfInBounds_toArray, List.set_cons_zero, List.set_cons_succ]) | (refine plan_pass2 rfl rfl ?_; simp only [List.getElem_toArray, List.getElem_cons_succ, List.getElem_cons_zero, Act.put, List.setIfInBounds_toArray, List.set_cons_zero, List.set_cons_succ]) | (refine plan_pass3 rfl rfl ?_; simp only [List.getElem_toArray, List.getElem_cons_succ, List.getElem_cons_zero, Act.put, List.setIfInBounds_toArray, List.set_cons_zero, List.set_cons_succ]) | (refine plan_take (v := ?_) rfl rfl ?_ ?_; rotate_left; (focus (intro w0; go_simp; try with_reducible rfl)); simp only [List.getElem_toArray, List.getElem_cons_succ, List.getElem_cons_zero, Act.put, List.setIfInBounds_toArray, List.set_cons_zero, List.set_cons_succ]) | (refine plan_held (v := ?_) rfl rfl hS9 ?_ ?_; rotate_left; (focus (intro w0 hSw; (try dsimp only at hSw); go_split_ands; go_simp; try with_reducible rfl)); simp only [List.getElem_toArray, List.getElem_cons_succ, List.getElem_cons_zero, Act.put, List.setIfInBounds_toArray, List.set_cons_zero, List.set_cons_succ])  | (refine plan_skip1 rfl rfl hS9 ?_; simp only [List.getElem_toArray, List.getElem_cons_succ, List.getElem_cons_zero, Act.put, List.setIfInBounds_toArray, List.set_cons_zero, List.set_cons_succ]))
              (refine plan_do rfl rfl fun K hK => ?_; try simp only [List.getElem_toArray, List.getElem_cons_succ, List.getElem_cons_zero])
              go_simp
              refine (refGap_any X.epoch me hx0 hx1 he0 he1 _).mono ?_; rintro e w' ⟨rfl, rfl⟩
              refine hK _ _ hS9 ?_
              clear hK K
              try simp only [List.getElem_toArray, List.getElem_cons_succ, List.getElem_cons_zero, Act.put, List.setIfInBounds_toArray, List.set_cons_zero, List.set_cons_succ]
              try simp only [hgd, gt_iff_lt]
              repeat (first | (refine plan_skip rfl rfl ?_; simp only [List.getElem_toArray, List.getElem_cons_succ, List.getElem_cons_zero, Act.put, List.setIfInBounds_toArray, List.set_cons_zero, List.set_cons_succ]) | (refine plan_pass2 rfl rfl ?_; simp only [List.getElem_toArray, List.getElem_cons_succ, List.getElem_cons_zero, Act.put, List.setIfInBounds_toArray, List.set_cons_zero, List.set_cons_succ]) | (refine plan_pass3 rfl rfl ?_; simp only [List.getElem_toArray, List.getElem_cons_succ, List.getElem_cons_zero, Act.put, List.setIfInBounds_toArray, List.set_cons_zero, List.set_cons_succ]) | (refine plan_take (v := ?_) rfl rfl ?_ ?_; rotate_left; (focus (intro w0; go_simp; try with_reducible rfl)); simp only [List.getElem_toArray, List.getElem_cons_succ, List.getElem_cons_zero, Act.put, List.setIfInBounds_toArray, List.set_cons_zero, List.set_cons_succ]) | (refine plan_held (v := ?_) rfl rfl hS9 ?_ ?_; rotate_left; (focus (intro w0 hSw; (try dsimp only at hSw); go_split_ands; go_simp; try with_reducible rfl)); simp only [List.getElem_toArray, List.getElem_cons_succ, List.getElem_cons_zero, Act.put, List.setIfInBounds_toArray, List.set_cons_zero, List.set_cons_succ])  | (refine plan_skip1 rfl rfl hS9 ?_; simp only [List.getElem_toArray, List.getElem_cons_succ, List.getElem_cons_zero, Act.put, List.setIfInBounds_toArray, List.set_cons_zero, List.set_cons_succ]))
              try simp only [hgd, gt_iff_lt]
              repeat (first | (refine plan_skip rfl rfl ?_; simp only [List.getElem_toArray, List.getElem_cons_succ, List.getElem_cons_zero, Act.put, List.setIfInBounds_toArray, List.set_cons_zero, List.set_cons_succ]) | (refine plan_pass2 rfl rfl ?_; simp only [List.getElem_toArray, List.getElem_cons_succ, List.getElem_cons_zero, Act.put, List.setIfInBounds_toArray, List.set_cons_zero, List.set_cons_succ]) | (refine plan_pass3 rfl rfl ?_; simp only [List.getElem_toArray, List.getElem_cons_succ, List.getElem_cons_zero, Act.put, List.setIfInBounds_toArray, List.set_cons_zero, List.set_cons_succ]) | (refine plan_take (v := ?_) rfl rfl ?_ ?_; rotate_left; (focus (intro w0; go_simp; try with_reducible rfl)); simp only [List.getElem_toArray, List.getElem_cons_succ, List.getElem_cons_zero, Act.put, List.setIfInBounds_toArray, List.set_cons_zero, List.set_cons_succ]) | (refine plan_held (v := ?_) rfl rfl hS9 ?_ ?_; rotate_left; (focus (intro w0 hSw; (try dsimp only at hSw); go_split_ands; go_simp; try with_reducible rfl)); simp only [List.getElem_toArray, List.getElem_cons_succ, List.getElem_cons_zero, Act.put, List.setIfInBounds_toArray, List.set_cons_zero, List.set_cons_succ])  | (refine plan_skip1 rfl rfl hS9 ?_; simp only [List.getElem_toArray, List.getElem_cons_succ, List.getElem_cons_zero, Act.put, List.setIfInBounds_toArray, List.set_cons_zero, List.set_cons_succ]))
              refine plan_nil ?_
              clear hS9 HJ HXN HFW0 hgd
              have kb0 : w1.drew.cell? ⟨pb, 0, none⟩ = some (.int .i64 mn) := HPB.out.cell rfl
              have kb2 : w1.drew.cell? ⟨pb, 2, none⟩ = some (.int .u32 me) := HPB.out.cell rfl
              go_wp2_with fail
              refine (RNew_any mn false me _ he0 he1).mono ?_; rintro e w3 ⟨p, rfl, hx3, hm3⟩
              have hm3' := Mod.ofDrew hm3
              clear kb0 kb2
              have HX3 := Lib.hid (HX1.out.grow hm3' (fun _ _ f => f) (.inl mn))
              have HB3 := Lib.hid (HB1.out.step hm3' (fun _ f => f.elim) (.inl mn))
              have HF3 : Hid (RLifeAt w3 p (fun k => dyed cA w1 (.inl mn) k = .inl (RLife.fresh mn false me).node) (RLife.fresh mn false me)) := Lib.hid (hx3.mono fun k hk _ => dyed_new hk)
              have hpw1 : pb < w1.heap.size := HPB.out.lt
              have hcp3 : dyed cA w1 (.inl mn) pb = .inr 9 := by rw [dyed_old hpw1]; exact HCA.out
              have HPB3 := Lib.hid (Blk.keep HPB.out hm3' fun f => f)
              have HM3 := Lib.hid (HM.out.trans hm3' fun _ f => f.elim)
              generalize hc3 : dyed cA w1 (.inl mn) = c3 at HX3 HB3 HF3 hcp3
              clear hc3 hx3 hm3 hm3'
              go_wp2_with fail
              refine (put_any HX3.out HF3.out (by have := HNN.out; omega)).mono ?_; rintro e w4 ⟨rfl, lv4, hx4, hm4⟩
              have hpw3 : pb < w3.heap.size := HPB3.out.lt
              have HB4 := Lib.hid (HB3.out.step hm4 (fun k hk => by rw [hk]; decide) (.inr 1))
              have HPB4 := Lib.hid (HPB3.out.keep hm4 (fun e => by rw [hcp3] at e; cases e))
              have HXW := Lib.hid hx4
              have hcp4 : dyed c3 w3 (.inr 1) pb = .inr 9 := by rw [dyed_old hpw3]; exact hcp3
              have HMW4 : Hid (w.heap.size ≤ w4.heap.size) := Lib.hid (Nat.le_trans HM3.out.size hm4.size)
              generalize hc4 : dyed c3 w3 (.inr 1) = c2 at HB4 HXW hcp4
              generalize hpb4 : (fun n => if n = (RLife.fresh mn false me).node then p else pbo n) = pb2 at HXW
              clear hc4 hpb4 hx4 hm4
              have HCPB := Lib.hid hcp4
              have HFX4 := Lib.hid (XFind_any HXW.out mn)
              have kb0 := HPB4.out.cell (j := 0) rfl
              clear hcp3 hcp4
              go_wp2_with fail
              refine HFX4.out.mono ?_; rintro e w2 ⟨i2, rfl, hp2, rfl⟩
              clear kb0
              have hfr : hfind RLife.node (hput RLife.node l (RLife.fresh mn false me)) mn = some (RLife.fresh mn false me) := (hfind_hput HH.out.asc (RLife.fresh mn false me) mn).trans (if_pos rfl)
              rcases hp2 with ⟨rfl, hn2⟩ | ⟨j, X, rfl, hj2, hXn2, hn2⟩
              · rw [hfr] at hn2; cases hn2
              · obtain rfl : RLife.fresh mn false me = X := by rw [hfr] at hn2; cases hn2; rfl
                obtain ⟨X, hXF⟩ : ∃ X, X = RLife.fresh mn false me := ⟨_, rfl⟩
                rw [← hXF] at hj2 hfr HXW
                have HJ := Lib.hid hj2
                have HXN : Hid (X.node = mn) := Lib.hid (by rw [hXF]; rfl)
                have HFW := Lib.hid hfr
                have HBW := Lib.hid HB4.out
                have HPBW := Lib.hid HPB4.out
                have HMW : Hid (∃ h : w.heap.size ≤ w2.heap.size, True) := Lib.hid ⟨HMW4.out, trivial⟩
                have HSL : Hid (X.s.l.length ≤ a ∧ X.r.n ≤ b) := Lib.hid (by rw [hXF]; exact ⟨Nat.zero_le _, Nat.zero_le _⟩)
                have HPP : Hid (∀ Y : RLife, Y.node = mn → hput RLife.node (hput RLife.node l X) Y = hput RLife.node l Y) := Lib.hid fun Y hY => hput_hput (by rw [hXF, hY]; rfl)
                have HRR : Hid (X.epoch = me → hubHear (l.map RLife.abs) G M = (true, (X.abs.hear M).1, [], hput Life.node (l.map RLife.abs) (X.abs.hear M).2)) := Lib.hid fun _ => by
                  rw [HE.out]
                  unfold hubNew
                  rw [HNO.out.1.1, HNO.out.1.2, hXF, fresh_abs]
                have hep : X.epoch = me := by rw [hXF]; rfl
                have HEP := Lib.hid hep
                clear hep
                clear hj2 hXn2 hn2 hfr hXF HFX4 HB4 HPB4 HMW4 HB3 HX3 HF3 HPB3
                obtain ⟨ad2, cp2, hlv2, hnc2, hcm2, d0, hg2⟩ := HXW.out.form
                obtain ⟨nl, hnl⟩ : ∃ nl, nl = (hput RLife.node l X).length := ⟨_, rfl⟩
                have hjl2 : j < (hput RLife.node l X).length := (List.getElem?_eq_some_iff.1 HJ.out).1
                rw [← hnl] at hlv2 hnc2 hg2 hjl2
                obtain ⟨g, hge, hgc2, hgl2, hcell2⟩ := hg2 (by omega)
                subst hge
                rw [hlv2] at d0
                have x0 := hcell2 j X HJ.out
                have x2 := HXW.out.epochAt HJ.out
                have hji : (j : Int) < (nl : Int) := by omega
                have hS12 : w2.drew.cell? ⟨xb, 0, none⟩ = some (.slice (some ⟨g, 0, none⟩) nl cp2) ∧ w2.drew.cell? ⟨g, j, none⟩ = some (.pointer (some ⟨pb2 X.node, 0, none⟩)) ∧ w2.drew.cell? ⟨pb2 X.node, 2, none⟩ = some (.int .u32 X.epoch) ∧ w2.drew.cell? ⟨pb, 2, none⟩ = some (.int .u32 me) := ⟨d0, x0, x2, HPBW.out.cell rfl⟩
                have hS14 : w2.drew.drew.cell? ⟨xb, 0, none⟩ = some (.slice (some ⟨g, 0, none⟩) nl cp2) ∧ w2.drew.drew.cell? ⟨g, j, none⟩ = some (.pointer (some ⟨pb2 X.node, 0, none⟩)) ∧ w2.drew.drew.cell? ⟨pb, 0, none⟩ = some (.int .i64 mn) ∧ w2.drew.drew.cell? ⟨pb, 1, none⟩ = some (.bool true) ∧ w2.drew.drew.cell? ⟨pb, 2, none⟩ = some (.int .u32 me) ∧ w2.drew.drew.cell? ⟨pb, 3, none⟩ = some (.int .i64 mk) ∧ w2.drew.drew.cell? ⟨pb, 4, none⟩ = some (.int .u32 ma) ∧ w2.drew.drew.cell? ⟨pb, 5, none⟩ = some (.int .u32 ms) ∧ w2.drew.drew.cell? ⟨pb, 6, none⟩ = some (.string mb) := ⟨d0, x0, HPBW.out.cell rfl, HPBW.out.cell rfl, HPBW.out.cell rfl, HPBW.out.cell rfl, HPBW.out.cell rfl, HPBW.out.cell rfl, HPBW.out.cell rfl⟩
                have HGC2 := Lib.hid hgc2
                unfold maxLen at hcm2
                have HNL := Lib.hid hnl
                clear hg2 hgc2 hcell2 x0 x2 d0 hlv2 hnl
                go_wp2_with fail
                by_cases hee : X.epoch = me
                · have hbe : (X.epoch != me) = false := by simp [hee]
                  have HR := Lib.hid (HRR.out hee)
                  clear hee
                  refine wp_region_plan [] [(0, 0), (1, 0), (2, 0), (3, 1), (4, 0), (5, 0), (6, 1), (7, 0), (8, 0), (9, 1), (10, 0), (11, 1), (12, 0)] (fun w' : World => w'.cell? ⟨xb, 0, none⟩ = some (.slice (some ⟨g, 0, none⟩) nl cp2) ∧ w'.cell? ⟨g, j, none⟩ = some (.pointer (some ⟨pb2 X.node, 0, none⟩)) ∧ w'.cell? ⟨pb2 X.node, 2, none⟩ = some (.int .u32 X.epoch) ∧ w'.cell? ⟨pb, 2, none⟩ = some (.int .u32 me)) (by kernel_rfl) (by kernel_rfl) (fun d _ _ _ _ h => by cases d <;> exact h) ?_
                  repeat (first | (refine plan_skip rfl rfl ?_; simp only [List.getElem_toArray, List.getElem_cons_succ, List.getElem_cons_zero, Act.put, List.setIfInBounds_toArray, List.set_cons_zero, List.set_cons_succ]) | (refine plan_pass2 rfl rfl ?_; simp only [List.getElem_toArray, List.getElem_cons_succ, List.getElem_cons_zero, Act.put, List.setIfInBounds_toArray, List.set_cons_zero, List.set_cons_succ]) | (refine plan_pass3 rfl rfl ?_; simp only [List.getElem_toArray, List.getElem_cons_succ, List.getElem_cons_zero, Act.put, List.setIfInBounds_toArray, List.set_cons_zero, List.set_cons_succ]) | (refine plan_take (v := ?_) rfl rfl ?_ ?_; rotate_left; (focus (intro w0; go_simp; try with_reducible rfl)); simp only [List.getElem_toArray, List.getElem_cons_succ, List.getElem_cons_zero, Act.put, List.setIfInBounds_toArray, List.set_cons_zero, List.set_cons_succ]) | (refine plan_held (v := ?_) rfl rfl hS12 ?_ ?_; rotate_left; (focus (intro w0 hSw; (try dsimp only at hSw); go_split_ands; go_simp; try with_reducible rfl)); simp only [List.getElem_toArray, List.getElem_cons_succ, List.getElem_cons_zero, Act.put, List.setIfInBounds_toArray, List.set_cons_zero, List.set_cons_succ])  | (refine plan_skip1 rfl rfl hS12 ?_; simp only [List.getElem_toArray, List.getElem_cons_succ, List.getElem_cons_zero, Act.put, List.setIfInBounds_toArray, List.set_cons_zero, List.set_cons_succ]))
                  try simp only [hbe]
                  repeat (first | (refine plan_skip rfl rfl ?_; simp only [List.getElem_toArray, List.getElem_cons_succ, List.getElem_cons_zero, Act.put, List.setIfInBounds_toArray, List.set_cons_zero, List.set_cons_succ]) | (refine plan_pass2 rfl rfl ?_; simp only [List.getElem_toArray, List.getElem_cons_succ, List.getElem_cons_zero, Act.put, List.setIfInBounds_toArray, List.set_cons_zero, List.set_cons_succ]) | (refine plan_pass3 rfl rfl ?_; simp only [List.getElem_toArray, List.getElem_cons_succ, List.getElem_cons_zero, Act.put, List.setIfInBounds_toArray, List.set_cons_zero, List.set_cons_succ]) | (refine plan_take (v := ?_) rfl rfl ?_ ?_; rotate_left; (focus (intro w0; go_simp; try with_reducible rfl)); simp only [List.getElem_toArray, List.getElem_cons_succ, List.getElem_cons_zero, Act.put, List.setIfInBounds_toArray, List.set_cons_zero, List.set_cons_succ]) | (refine plan_held (v := ?_) rfl rfl hS12 ?_ ?_; rotate_left; (focus (intro w0 hSw; (try dsimp only at hSw); go_split_ands; go_simp; try with_reducible rfl)); simp only [List.getElem_toArray, List.getElem_cons_succ, List.getElem_cons_zero, Act.put, List.setIfInBounds_toArray, List.set_cons_zero, List.set_cons_succ])  | (refine plan_skip1 rfl rfl hS12 ?_; simp only [List.getElem_toArray, List.getElem_cons_succ, List.getElem_cons_zero, Act.put, List.setIfInBounds_toArray, List.set_cons_zero, List.set_cons_succ]))
                  refine plan_nil ?_
                  clear hS12
                  go_wp2_with fail
                  refine wp_region_plan [] [(0, 0), (1, 0), (2, 0), (3, 0), (4, 1), (5, 0), (6, 0), (7, 1), (8, 1), (9, 2), (10, 0), (11, 0), (12, 0)] (fun w' : World => w'.cell? ⟨xb, 0, none⟩ = some (.slice (some ⟨g, 0, none⟩) nl cp2) ∧ w'.cell? ⟨g, j, none⟩ = some (.pointer (some ⟨pb2 X.node, 0, none⟩)) ∧ w'.cell? ⟨pb, 0, none⟩ = some (.int .i64 mn) ∧ w'.cell? ⟨pb, 1, none⟩ = some (.bool true) ∧ w'.cell? ⟨pb, 2, none⟩ = some (.int .u32 me) ∧ w'.cell? ⟨pb, 3, none⟩ = some (.int .i64 mk) ∧ w'.cell? ⟨pb, 4, none⟩ = some (.int .u32 ma) ∧ w'.cell? ⟨pb, 5, none⟩ = some (.int .u32 ms) ∧ w'.cell? ⟨pb, 6, none⟩ = some (.string mb)) (by kernel_rfl) (by kernel_rfl) (fun d _ _ _ _ h => by cases d <;> exact h) ?_
                  repeat (first | (refine plan_skip rfl rfl ?_; simp only [List.getElem_toArray, List.getElem_cons_succ, List.getElem_cons_zero, Act.put, List.setIfInBounds_toArray, List.set_cons_zero, List.set_cons_succ]) | (refine plan_pass2 rfl rfl ?_; simp only [List.getElem_toArray, List.getElem_cons_succ, List.getElem_cons_zero, Act.put, List.setIfInBounds_toArray, List.set_cons_zero, List.set_cons_succ]) | (refine plan_pass3 rfl rfl ?_; simp only [List.getElem_toArray, List.getElem_cons_succ, List.getElem_cons_zero, Act.put, List.setIfInBounds_toArray, List.set_cons_zero, List.set_cons_succ]) | (refine plan_take (v := ?_) rfl rfl ?_ ?_; rotate_left; (focus (intro w0; go_simp; try with_reducible rfl)); simp only [List.getElem_toArray, List.getElem_cons_succ, List.getElem_cons_zero, Act.put, List.setIfInBounds_toArray, List.set_cons_zero, List.set_cons_succ]) | (refine plan_held (v := ?_) rfl rfl hS14 ?_ ?_; rotate_left; (focus (intro w0 hSw; (try dsimp only at hSw); go_split_ands; go_simp; try with_reducible rfl)); simp only [List.getElem_toArray, List.getElem_cons_succ, List.getElem_cons_zero, Act.put, List.setIfInBounds_toArray, List.set_cons_zero, List.set_cons_succ])  | (refine plan_skip1 rfl rfl hS14 ?_; simp only [List.getElem_toArray, List.getElem_cons_succ, List.getElem_cons_zero, Act.put, List.setIfInBounds_toArray, List.set_cons_zero, List.set_cons_succ]))
                  have hlife := (HXW.out.life HFW.out).2
                  have HLIFE := Lib.hid hlife
                  clear hlife
                  (refine plan_do rfl rfl fun K hK => ?_; try simp only [List.getElem_toArray, List.getElem_cons_succ, List.getElem_cons_zero])
                  go_simp
                  rw [← HCS.out]
                  have hXN := HXN.out
                  rw [hXN]
                  refine (Rhear_any (pb2 mn) _ X M _ HLIFE.out.drew.drew HOK.out (by have := HSL.out.2; omega)).mono ?_; rintro e w5 ⟨v5, X', rfl, hv5, hl5, habs, hsl5, hrn5, hm5⟩
                  have hm5' : Mod (fun k => c2 k = .inl mn) w2 w5 := Mod.ofDrew (Mod.ofDrew hm5)
                  rw [hXN] at hS14
                  refine hK _ _ (by
                    rw [hXN]
                    have hnx : ¬ c2 xb = .inl mn := fun e => by rw [HXW.out.f0] at e; cases e
                    have hng : ¬ c2 g = .inl mn := fun e => by rw [HGC2.out] at e; cases e
                    have hnp : ¬ c2 pb = .inl mn := fun e => by rw [HCPB.out] at e; cases e
                    exact ⟨hm5.cell hnx hS14.1, hm5.cell hng hS14.2.1, hm5.cell hnp hS14.2.2.1, hm5.cell hnp hS14.2.2.2.1, hm5.cell hnp hS14.2.2.2.2.1, hm5.cell hnp hS14.2.2.2.2.2.1, hm5.cell hnp hS14.2.2.2.2.2.2.1, hm5.cell hnp hS14.2.2.2.2.2.2.2.1, hm5.cell hnp hS14.2.2.2.2.2.2.2.2⟩) ?_
                  clear hK K hS14
                  try simp only [List.getElem_toArray, List.getElem_cons_succ, List.getElem_cons_zero, Act.put, List.setIfInBounds_toArray, List.set_cons_zero, List.set_cons_succ]
                  have hX'n : X'.node = mn := by
                    have := congrArg Life.node habs
                    rw [Life.hear_node] at this
                    exact this.trans hXN
                  have hset := HXW.out.set HFW.out (L' := X') hX'n hl5 hm5'
                  have hfin : XHearEnd w w5 f xb gs l a b (.returned (.tuple #[.bool true, v5, .slice none 0 0])) (hubHear (l.map RLife.abs) G M) := by
                    rw [HR.out]
                    obtain ⟨hs, _⟩ := HMW.out
                    obtain ⟨h1, h2⟩ := hset.shut (HBW.out.step hm5' (fun k hk => inl_ne hk) (.inl mn))
                    first | rw [HPP.out X' hX'n] at h1 | skip
                    refine ⟨_, _, hput RLife.node l X', rfl, hv5.mono fun k hk => Nat.le_trans hs hk, Row.nil _ _ _ _, h1, ?_, hput_len HH.out.asc, small_put (fun Y hY => ⟨(HSM.out Y hY).1, Nat.le_trans (HSM.out Y hY).2 (by omega)⟩) ⟨by rw [hsl5]; exact HSL.out.1, by have := HSL.out.2; omega⟩, h2⟩
                    rw [← hput_map (nd := RLife.node) RLife.abs abs_node, habs]
                  have HFIN := Lib.hid hfin
                  clear hv5 hl5 habs hsl5 hrn5 hm5 hm5' hset hX'n hfin hXN
                  repeat (first | (refine plan_skip rfl rfl ?_; simp only [List.getElem_toArray, List.getElem_cons_succ, List.getElem_cons_zero, Act.put, List.setIfInBounds_toArray, List.set_cons_zero, List.set_cons_succ]) | (refine plan_pass2 rfl rfl ?_; simp only [List.getElem_toArray, List.getElem_cons_succ, List.getElem_cons_zero, Act.put, List.setIfInBounds_toArray, List.set_cons_zero, List.set_cons_succ]) | (refine plan_pass3 rfl rfl ?_; simp only [List.getElem_toArray, List.getElem_cons_succ, List.getElem_cons_zero, Act.put, List.setIfInBounds_toArray, List.set_cons_zero, List.set_cons_succ]) | (refine plan_take (v := ?_) rfl rfl ?_ ?_; rotate_left; (focus (intro w0; go_simp; try with_reducible rfl)); simp only [List.getElem_toArray, List.getElem_cons_succ, List.getElem_cons_zero, Act.put, List.setIfInBounds_toArray, List.set_cons_zero, List.set_cons_succ]) | fail )
                  refine plan_nil ?_
                  go_wp2
                  go_ret3
                  exact HFIN.out
                · exact absurd HEP.out hee
            · have hgd : decide (0 < Sr.gap X.epoch me) = false := decide_eq_false hgp
              have HGP : Hid (¬ 0 < Sr.gap X.epoch me) := Lib.hid hgp
              clear hgp
              go_wp2_with fail
              refine wp_region_plan [] [(0, 0), (1, 0), (2, 0), (3, 0), (4, 0), (5, 0), (6, 1), (7, 0), (8, 0), (9, 1), (10, 0), (11, 0), (12, 1), (13, 0), (14, 1), (15, 2), (16, 0), (17, 0)] (fun w' : World => w'.cell? ⟨xb, 0, none⟩ = some (.slice (some ⟨g, 0, none⟩) n cp) ∧ w'.cell? ⟨g, j, none⟩ = some (.pointer (some ⟨pbo X.node, 0, none⟩)) ∧ w'.cell? ⟨pbo X.node, 2, none⟩ = some (.int .u32 X.epoch) ∧ w'.cell? ⟨pb, 2, none⟩ = some (.int .u32 me)) (by kernel_rfl) (by kernel_rfl) (fun d _ _ _ _ h => by cases d <;> exact h) ?_
              repeat (first | (refine plan_skip rfl rfl ?_; simp only [List.getElem_toArray, List.getElem_cons_succ, List.getElem_cons_zero, Act.put, List.setIfInBounds_toArray, List.set_cons_zero, List.set_cons_succ]) | (refine plan_pass2 rfl rfl ?_; simp only [List.getElem_toArray, List.getElem_cons_succ, List.getElem_cons_zero, Act.put, List.setIfInBounds_toArray, List.set_cons_zero, List.set_cons_succ]) | (refine plan_pass3 rfl rfl ?_; simp only [List.getElem_toArray, List.getElem_cons_succ, List.getElem_cons_zero, Act.put, List.setIfInBounds_toArray, List.set_cons_zero, List.set_cons_succ]) | (refine plan_take (v := ?_) rfl rfl ?_ ?_; rotate_left; (focus (intro w0; go_simp; try with_reducible rfl)); simp only [List.getElem_toArray, List.getElem_cons_succ, List.getElem_cons_zero, Act.put, List.setIfInBounds_toArray, List.set_cons_zero, List.set_cons_succ]) | (refine plan_held (v := ?_) rfl rfl hS9 ?_ ?_; rotate_left; (focus (intro w0 hSw; (try dsimp only at hSw); go_split_ands; go_simp; try with_reducible rfl)); simp only [List.getElem_toArray, List.getElem_cons_succ, List.getElem_cons_zero, Act.put, List.setIfInBounds_toArray, List.set_cons_zero, List.set_cons_succ])  | (refine plan_skip1 rfl rfl hS9 ?_; simp only [List.getElem_toArray, List.getElem_cons_succ, List.getElem_cons_zero, Act.put, List.setIfInBounds_toArray, List.set_cons_zero, List.set_cons_succ]))
              try simp only [hj1]
              repeat (first | (refine plan_skip rfl rfl ?_; simp only [List.getElem_toArray, List.getElem_cons_succ, List.getElem_cons_zero, Act.put, List.setIfInBounds_toArray, List.set_cons_zero, List.set_cons_succ]) | (refine plan_pass2 rfl rfl ?_; simp only [List.getElem_toArray, List.getElem_cons_succ, List.getElem_cons_zero, Act.put, List.setIfInBounds_toArray, List.set_cons_zero, List.set_cons_succ]) | (refine plan_pass3 rfl rfl ?_; simp only [List.getElem_toArray, List.getElem_cons_succ, List.getElem_cons_zero, Act.put, List.setIfInBounds_toArray, List.set_cons_zero, List.set_cons_succ]) | (refine plan_take (v := ?_) rfl rfl ?_ ?_; rotate_left; (focus (intro w0; go_simp; try with_reducible rfl)); simp only [List.getElem_toArray, List.getElem_cons_succ, List.getElem_cons_zero, Act.put, List.setIfInBounds_toArray, List.set_cons_zero, List.set_cons_succ]) | (refine plan_held (v := ?_) rfl rfl hS9 ?_ ?_; rotate_left; (focus (intro w0 hSw; (try dsimp only at hSw); go_split_ands; go_simp; try with_reducible rfl)); simp only [List.getElem_toArray, List.getElem_cons_succ, List.getElem_cons_zero, Act.put, List.setIfInBounds_toArray, List.set_cons_zero, List.set_cons_succ])  | (refine plan_skip1 rfl rfl hS9 ?_; simp only [List.getElem_toArray, List.getElem_cons_succ, List.getElem_cons_zero, Act.put, List.setIfInBounds_toArray, List.set_cons_zero, List.set_cons_succ]))
              (refine plan_do rfl rfl fun K hK => ?_; try simp only [List.getElem_toArray, List.getElem_cons_succ, List.getElem_cons_zero])
              go_simp
              refine (refGap_any X.epoch me hx0 hx1 he0 he1 _).mono ?_; rintro e w' ⟨rfl, rfl⟩
              refine hK _ _ hS9 ?_
              clear hK K
              try simp only [List.getElem_toArray, List.getElem_cons_succ, List.getElem_cons_zero, Act.put, List.setIfInBounds_toArray, List.set_cons_zero, List.set_cons_succ]
              try simp only [hgd, gt_iff_lt]
              repeat (first | (refine plan_skip rfl rfl ?_; simp only [List.getElem_toArray, List.getElem_cons_succ, List.getElem_cons_zero, Act.put, List.setIfInBounds_toArray, List.set_cons_zero, List.set_cons_succ]) | (refine plan_pass2 rfl rfl ?_; simp only [List.getElem_toArray, List.getElem_cons_succ, List.getElem_cons_zero, Act.put, List.setIfInBounds_toArray, List.set_cons_zero, List.set_cons_succ]) | (refine plan_pass3 rfl rfl ?_; simp only [List.getElem_toArray, List.getElem_cons_succ, List.getElem_cons_zero, Act.put, List.setIfInBounds_toArray, List.set_cons_zero, List.set_cons_succ]) | (refine plan_take (v := ?_) rfl rfl ?_ ?_; rotate_left; (focus (intro w0; go_simp; try with_reducible rfl)); simp only [List.getElem_toArray, List.getElem_cons_succ, List.getElem_cons_zero, Act.put, List.setIfInBounds_toArray, List.set_cons_zero, List.set_cons_succ]) | (refine plan_held (v := ?_) rfl rfl hS9 ?_ ?_; rotate_left; (focus (intro w0 hSw; (try dsimp only at hSw); go_split_ands; go_simp; try with_reducible rfl)); simp only [List.getElem_toArray, List.getElem_cons_succ, List.getElem_cons_zero, Act.put, List.setIfInBounds_toArray, List.set_cons_zero, List.set_cons_succ])  | (refine plan_skip1 rfl rfl hS9 ?_; simp only [List.getElem_toArray, List.getElem_cons_succ, List.getElem_cons_zero, Act.put, List.setIfInBounds_toArray, List.set_cons_zero, List.set_cons_succ]))
              try simp only [hgd, gt_iff_lt]
              repeat (first | (refine plan_skip rfl rfl ?_; simp only [List.getElem_toArray, List.getElem_cons_succ, List.getElem_cons_zero, Act.put, List.setIfInBounds_toArray, List.set_cons_zero, List.set_cons_succ]) | (refine plan_pass2 rfl rfl ?_; simp only [List.getElem_toArray, List.getElem_cons_succ, List.getElem_cons_zero, Act.put, List.setIfInBounds_toArray, List.set_cons_zero, List.set_cons_succ]) | (refine plan_pass3 rfl rfl ?_; simp only [List.getElem_toArray, List.getElem_cons_succ, List.getElem_cons_zero, Act.put, List.setIfInBounds_toArray, List.set_cons_zero, List.set_cons_succ]) | (refine plan_take (v := ?_) rfl rfl ?_ ?_; rotate_left; (focus (intro w0; go_simp; try with_reducible rfl)); simp only [List.getElem_toArray, List.getElem_cons_succ, List.getElem_cons_zero, Act.put, List.setIfInBounds_toArray, List.set_cons_zero, List.set_cons_succ]) | (refine plan_held (v := ?_) rfl rfl hS9 ?_ ?_; rotate_left; (focus (intro w0 hSw; (try dsimp only at hSw); go_split_ands; go_simp; try with_reducible rfl)); simp only [List.getElem_toArray, List.getElem_cons_succ, List.getElem_cons_zero, Act.put, List.setIfInBounds_toArray, List.set_cons_zero, List.set_cons_succ])  | (refine plan_skip1 rfl rfl hS9 ?_; simp only [List.getElem_toArray, List.getElem_cons_succ, List.getElem_cons_zero, Act.put, List.setIfInBounds_toArray, List.set_cons_zero, List.set_cons_succ]))
              refine plan_nil ?_
              clear hS9 hgd
              obtain ⟨c2, hc2⟩ : ∃ c2, c2 = cA := ⟨_, rfl⟩
              obtain ⟨pb2, hpb2⟩ : ∃ pb2, pb2 = pbo := ⟨_, rfl⟩
              obtain ⟨W, hW⟩ : ∃ W, W = w1.drew := ⟨_, rfl⟩
              rw [← hW]
              have HXW : Hid (XIn W xb l gs (.slice (some ⟨g, 0, none⟩) n cp) (.slice ga k gc) pb2 c2) := Lib.hid (by rw [hW, hc2, hpb2]; exact HX1.out.keep (Mod.refl (fun _ => False) _).drew fun _ _ f => f)
              have HBW : Hid (Bag w W f c2) := Lib.hid (by rw [hc2, hW]; exact ⟨HB1.out.mod.drew, HB1.out.cl, HB1.out.cf⟩)
              have HPBW : Hid (Blk W pb 32 [.int .i64 mn, .bool true, .int .u32 me, .int .i64 mk, .int .u32 ma, .int .u32 ms, .string mb]) := Lib.hid (by rw [hW]; exact HPB.out)
              have HCPB : Hid (c2 pb = .inr 9) := Lib.hid (by rw [hc2]; exact HCA.out)
              have HFW := Lib.hid HFW0.out
              have HMW : Hid (∃ h : w.heap.size ≤ W.heap.size, True) := Lib.hid ⟨by rw [hW]; exact HM.out.size, trivial⟩
              have HSL : Hid (X.s.l.length ≤ a ∧ X.r.n ≤ b) := Lib.hid (HSM.out X (List.mem_of_getElem? HJ.out))
              have HPP : Hid (∀ Y : RLife, Y.node = mn → hput RLife.node l Y = hput RLife.node l Y) := Lib.hid fun Y hY => rfl
              have HRR : Hid (X.epoch = me → hubHear (l.map RLife.abs) G M = (false, (X.abs.hear M).1, [], hput Life.node (l.map RLife.abs) (X.abs.hear M).2)) := Lib.hid fun hee => by
                unfold hubHear
                rw [if_neg HND.out, if_neg HNO.out.2, HNO.out.1.1, HNO.out.1.2, hfind_map (nd := RLife.node) RLife.abs abs_node, HFW0.out]
                exact (if_neg (Int.not_lt.2 HGP.out)).trans (if_neg (fun h => h hee))
              have HRN : Hid (¬ X.epoch = me → ∀ W, Mod (fun _ => False) w W → XHearEnd w W f xb gs l a b (.returned (.tuple #[.bool false, .slice none 0 0, .slice none 0 0])) (hubHear (l.map RLife.abs) G M)) := Lib.hid fun hee W hm => by
                have e : hubHear (l.map RLife.abs) G M = (false, [], [], l.map RLife.abs) := by
                  unfold hubHear
                  rw [if_neg HND.out, if_neg HNO.out.2, HNO.out.1.1, HNO.out.1.2, hfind_map (nd := RLife.node) RLife.abs abs_node, HFW0.out]
                  exact (if_neg (Int.not_lt.2 HGP.out)).trans (if_pos hee)
                rw [e]
                exact xhear_none HAT.out HSM.out hm
              have HMN : Hid (Mod (fun _ => False) w W) := Lib.hid (by rw [hW]; exact HM.out.drew)
              clear hW hc2 hpb2 hgc2 hgl2 c0 c1
              obtain ⟨ad2, cp2, hlv2, hnc2, hcm2, d0, hg2⟩ := HXW.out.form
              obtain ⟨nl, hnl⟩ : ∃ nl, nl = (l).length := ⟨_, rfl⟩
              have hjl2 : j < (l).length := (List.getElem?_eq_some_iff.1 HJ.out).1
              rw [← hnl] at hlv2 hnc2 hg2 hjl2
              obtain ⟨g, hge, hgc2, hgl2, hcell2⟩ := hg2 (by omega)
              subst hge
              rw [hlv2] at d0
              have x0 := hcell2 j X HJ.out
              have x2 := HXW.out.epochAt HJ.out
              have hji : (j : Int) < (nl : Int) := by omega
              have hS12 : W.drew.cell? ⟨xb, 0, none⟩ = some (.slice (some ⟨g, 0, none⟩) nl cp2) ∧ W.drew.cell? ⟨g, j, none⟩ = some (.pointer (some ⟨pb2 X.node, 0, none⟩)) ∧ W.drew.cell? ⟨pb2 X.node, 2, none⟩ = some (.int .u32 X.epoch) ∧ W.drew.cell? ⟨pb, 2, none⟩ = some (.int .u32 me) := ⟨d0, x0, x2, HPBW.out.cell rfl⟩
              have hS14 : W.drew.drew.cell? ⟨xb, 0, none⟩ = some (.slice (some ⟨g, 0, none⟩) nl cp2) ∧ W.drew.drew.cell? ⟨g, j, none⟩ = some (.pointer (some ⟨pb2 X.node, 0, none⟩)) ∧ W.drew.drew.cell? ⟨pb, 0, none⟩ = some (.int .i64 mn) ∧ W.drew.drew.cell? ⟨pb, 1, none⟩ = some (.bool true) ∧ W.drew.drew.cell? ⟨pb, 2, none⟩ = some (.int .u32 me) ∧ W.drew.drew.cell? ⟨pb, 3, none⟩ = some (.int .i64 mk) ∧ W.drew.drew.cell? ⟨pb, 4, none⟩ = some (.int .u32 ma) ∧ W.drew.drew.cell? ⟨pb, 5, none⟩ = some (.int .u32 ms) ∧ W.drew.drew.cell? ⟨pb, 6, none⟩ = some (.string mb) := ⟨d0, x0, HPBW.out.cell rfl, HPBW.out.cell rfl, HPBW.out.cell rfl, HPBW.out.cell rfl, HPBW.out.cell rfl, HPBW.out.cell rfl, HPBW.out.cell rfl⟩
              have HGC2 := Lib.hid hgc2
              unfold maxLen at hcm2
              have HNL := Lib.hid hnl
              clear hg2 hgc2 hcell2 x0 x2 d0 hlv2 hnl
              go_wp2_with fail
              by_cases hee : X.epoch = me
              · have hbe : (X.epoch != me) = false := by simp [hee]
                have HR := Lib.hid (HRR.out hee)
                clear hee
                refine wp_region_plan [] [(0, 0), (1, 0), (2, 0), (3, 1), (4, 0), (5, 0), (6, 1), (7, 0), (8, 0), (9, 1), (10, 0), (11, 1), (12, 0)] (fun w' : World => w'.cell? ⟨xb, 0, none⟩ = some (.slice (some ⟨g, 0, none⟩) nl cp2) ∧ w'.cell? ⟨g, j, none⟩ = some (.pointer (some ⟨pb2 X.node, 0, none⟩)) ∧ w'.cell? ⟨pb2 X.node, 2, none⟩ = some (.int .u32 X.epoch) ∧ w'.cell? ⟨pb, 2, none⟩ = some (.int .u32 me)) (by kernel_rfl) (by kernel_rfl) (fun d _ _ _ _ h => by cases d <;> exact h) ?_
                repeat (first | (refine plan_skip rfl rfl ?_; simp only [List.getElem_toArray, List.getElem_cons_succ, List.getElem_cons_zero, Act.put, List.setIfInBounds_toArray, List.set_cons_zero, List.set_cons_succ]) | (refine plan_pass2 rfl rfl ?_; simp only [List.getElem_toArray, List.getElem_cons_succ, List.getElem_cons_zero, Act.put, List.setIfInBounds_toArray, List.set_cons_zero, List.set_cons_succ]) | (refine plan_pass3 rfl rfl ?_; simp only [List.getElem_toArray, List.getElem_cons_succ, List.getElem_cons_zero, Act.put, List.setIfInBounds_toArray, List.set_cons_zero, List.set_cons_succ]) | (refine plan_take (v := ?_) rfl rfl ?_ ?_; rotate_left; (focus (intro w0; go_simp; try with_reducible rfl)); simp only [List.getElem_toArray, List.getElem_cons_succ, List.getElem_cons_zero, Act.put, List.setIfInBounds_toArray, List.set_cons_zero, List.set_cons_succ]) | (refine plan_held (v := ?_) rfl rfl hS12 ?_ ?_; rotate_left; (focus (intro w0 hSw; (try dsimp only at hSw); go_split_ands; go_simp; try with_reducible rfl)); simp only [List.getElem_toArray, List.getElem_cons_succ, List.getElem_cons_zero, Act.put, List.setIfInBounds_toArray, List.set_cons_zero, List.set_cons_succ])  | (refine plan_skip1 rfl rfl hS12 ?_; simp only [List.getElem_toArray, List.getElem_cons_succ, List.getElem_cons_zero, Act.put, List.setIfInBounds_toArray, List.set_cons_zero, List.set_cons_succ]))
                try simp only [hbe]
                repeat (first | (refine plan_skip rfl rfl ?_; simp only [List.getElem_toArray, List.getElem_cons_succ, List.getElem_cons_zero, Act.put, List.setIfInBounds_toArray, List.set_cons_zero, List.set_cons_succ]) | (refine plan_pass2 rfl rfl ?_; simp only [List.getElem_toArray, List.getElem_cons_succ, List.getElem_cons_zero, Act.put, List.setIfInBounds_toArray, List.set_cons_zero, List.set_cons_succ]) | (refine plan_pass3 rfl rfl ?_; simp only [List.getElem_toArray, List.getElem_cons_succ, List.getElem_cons_zero, Act.put, List.setIfInBounds_toArray, List.set_cons_zero, List.set_cons_succ]) | (refine plan_take (v := ?_) rfl rfl ?_ ?_; rotate_left; (focus (intro w0; go_simp; try with_reducible rfl)); simp only [List.getElem_toArray, List.getElem_cons_succ, List.getElem_cons_zero, Act.put, List.setIfInBounds_toArray, List.set_cons_zero, List.set_cons_succ]) | (refine plan_held (v := ?_) rfl rfl hS12 ?_ ?_; rotate_left; (focus (intro w0 hSw; (try dsimp only at hSw); go_split_ands; go_simp; try with_reducible rfl)); simp only [List.getElem_toArray, List.getElem_cons_succ, List.getElem_cons_zero, Act.put, List.setIfInBounds_toArray, List.set_cons_zero, List.set_cons_succ])  | (refine plan_skip1 rfl rfl hS12 ?_; simp only [List.getElem_toArray, List.getElem_cons_succ, List.getElem_cons_zero, Act.put, List.setIfInBounds_toArray, List.set_cons_zero, List.set_cons_succ]))
                refine plan_nil ?_
                clear hS12
                go_wp2_with fail
                refine wp_region_plan [] [(0, 0), (1, 0), (2, 0), (3, 0), (4, 1), (5, 0), (6, 0), (7, 1), (8, 1), (9, 2), (10, 0), (11, 0), (12, 0)] (fun w' : World => w'.cell? ⟨xb, 0, none⟩ = some (.slice (some ⟨g, 0, none⟩) nl cp2) ∧ w'.cell? ⟨g, j, none⟩ = some (.pointer (some ⟨pb2 X.node, 0, none⟩)) ∧ w'.cell? ⟨pb, 0, none⟩ = some (.int .i64 mn) ∧ w'.cell? ⟨pb, 1, none⟩ = some (.bool true) ∧ w'.cell? ⟨pb, 2, none⟩ = some (.int .u32 me) ∧ w'.cell? ⟨pb, 3, none⟩ = some (.int .i64 mk) ∧ w'.cell? ⟨pb, 4, none⟩ = some (.int .u32 ma) ∧ w'.cell? ⟨pb, 5, none⟩ = some (.int .u32 ms) ∧ w'.cell? ⟨pb, 6, none⟩ = some (.string mb)) (by kernel_rfl) (by kernel_rfl) (fun d _ _ _ _ h => by cases d <;> exact h) ?_
                repeat (first | (refine plan_skip rfl rfl ?_; simp only [List.getElem_toArray, List.getElem_cons_succ, List.getElem_cons_zero, Act.put, List.setIfInBounds_toArray, List.set_cons_zero, List.set_cons_succ]) | (refine plan_pass2 rfl rfl ?_; simp only [List.getElem_toArray, List.getElem_cons_succ, List.getElem_cons_zero, Act.put, List.setIfInBounds_toArray, List.set_cons_zero, List.set_cons_succ]) | (refine plan_pass3 rfl rfl ?_; simp only [List.getElem_toArray, List.getElem_cons_succ, List.getElem_cons_zero, Act.put, List.setIfInBounds_toArray, List.set_cons_zero, List.set_cons_succ]) | (refine plan_take (v := ?_) rfl rfl ?_ ?_; rotate_left; (focus (intro w0; go_simp; try with_reducible rfl)); simp only [List.getElem_toArray, List.getElem_cons_succ, List.getElem_cons_zero, Act.put, List.setIfInBounds_toArray, List.set_cons_zero, List.set_cons_succ]) | (refine plan_held (v := ?_) rfl rfl hS14 ?_ ?_; rotate_left; (focus (intro w0 hSw; (try dsimp only at hSw); go_split_ands; go_simp; try with_reducible rfl)); simp only [List.getElem_toArray, List.getElem_cons_succ, List.getElem_cons_zero, Act.put, List.setIfInBounds_toArray, List.set_cons_zero, List.set_cons_succ])  | (refine plan_skip1 rfl rfl hS14 ?_; simp only [List.getElem_toArray, List.getElem_cons_succ, List.getElem_cons_zero, Act.put, List.setIfInBounds_toArray, List.set_cons_zero, List.set_cons_succ]))
                have hlife := (HXW.out.life HFW.out).2
                have HLIFE := Lib.hid hlife
                clear hlife
                (refine plan_do rfl rfl fun K hK => ?_; try simp only [List.getElem_toArray, List.getElem_cons_succ, List.getElem_cons_zero])
                go_simp
                rw [← HCS.out]
                have hXN := HXN.out
                rw [hXN]
                refine (Rhear_any (pb2 mn) _ X M _ HLIFE.out.drew.drew HOK.out (by have := HSL.out.2; omega)).mono ?_; rintro e w5 ⟨v5, X', rfl, hv5, hl5, habs, hsl5, hrn5, hm5⟩
                have hm5' : Mod (fun k => c2 k = .inl mn) W w5 := Mod.ofDrew (Mod.ofDrew hm5)
                rw [hXN] at hS14
                refine hK _ _ (by
                  rw [hXN]
                  have hnx : ¬ c2 xb = .inl mn := fun e => by rw [HXW.out.f0] at e; cases e
                  have hng : ¬ c2 g = .inl mn := fun e => by rw [HGC2.out] at e; cases e
                  have hnp : ¬ c2 pb = .inl mn := fun e => by rw [HCPB.out] at e; cases e
                  exact ⟨hm5.cell hnx hS14.1, hm5.cell hng hS14.2.1, hm5.cell hnp hS14.2.2.1, hm5.cell hnp hS14.2.2.2.1, hm5.cell hnp hS14.2.2.2.2.1, hm5.cell hnp hS14.2.2.2.2.2.1, hm5.cell hnp hS14.2.2.2.2.2.2.1, hm5.cell hnp hS14.2.2.2.2.2.2.2.1, hm5.cell hnp hS14.2.2.2.2.2.2.2.2⟩) ?_
                clear hK K hS14
                try simp only [List.getElem_toArray, List.getElem_cons_succ, List.getElem_cons_zero, Act.put, List.setIfInBounds_toArray, List.set_cons_zero, List.set_cons_succ]
                have hX'n : X'.node = mn := by
                  have := congrArg Life.node habs
                  rw [Life.hear_node] at this
                  exact this.trans hXN
                have hset := HXW.out.set HFW.out (L' := X') hX'n hl5 hm5'
                have hfin : XHearEnd w w5 f xb gs l a b (.returned (.tuple #[.bool false, v5, .slice none 0 0])) (hubHear (l.map RLife.abs) G M) := by
                  rw [HR.out]
                  obtain ⟨hs, _⟩ := HMW.out
                  obtain ⟨h1, h2⟩ := hset.shut (HBW.out.step hm5' (fun k hk => inl_ne hk) (.inl mn))
                  first | rw [HPP.out X' hX'n] at h1 | skip
                  refine ⟨_, _, hput RLife.node l X', rfl, hv5.mono fun k hk => Nat.le_trans hs hk, Row.nil _ _ _ _, h1, ?_, hput_len HH.out.asc, small_put (fun Y hY => ⟨(HSM.out Y hY).1, Nat.le_trans (HSM.out Y hY).2 (by omega)⟩) ⟨by rw [hsl5]; exact HSL.out.1, by have := HSL.out.2; omega⟩, h2⟩
                  rw [← hput_map (nd := RLife.node) RLife.abs abs_node, habs]
                have HFIN := Lib.hid hfin
                clear hv5 hl5 habs hsl5 hrn5 hm5 hm5' hset hX'n hfin hXN
                repeat (first | (refine plan_skip rfl rfl ?_; simp only [List.getElem_toArray, List.getElem_cons_succ, List.getElem_cons_zero, Act.put, List.setIfInBounds_toArray, List.set_cons_zero, List.set_cons_succ]) | (refine plan_pass2 rfl rfl ?_; simp only [List.getElem_toArray, List.getElem_cons_succ, List.getElem_cons_zero, Act.put, List.setIfInBounds_toArray, List.set_cons_zero, List.set_cons_succ]) | (refine plan_pass3 rfl rfl ?_; simp only [List.getElem_toArray, List.getElem_cons_succ, List.getElem_cons_zero, Act.put, List.setIfInBounds_toArray, List.set_cons_zero, List.set_cons_succ]) | (refine plan_take (v := ?_) rfl rfl ?_ ?_; rotate_left; (focus (intro w0; go_simp; try with_reducible rfl)); simp only [List.getElem_toArray, List.getElem_cons_succ, List.getElem_cons_zero, Act.put, List.setIfInBounds_toArray, List.set_cons_zero, List.set_cons_succ]) | fail )
                refine plan_nil ?_
                go_wp2
                go_ret3
                exact HFIN.out
              · have hbe : (X.epoch != me) = true := by simp [hee]
                have HR := Lib.hid (HRN.out hee)
                clear hee
                refine wp_region_plan [] [(0, 0), (1, 0), (2, 0), (3, 1), (4, 0), (5, 0), (6, 1), (7, 0), (8, 0), (9, 1), (10, 0), (11, 1), (12, 0)] (fun w' : World => w'.cell? ⟨xb, 0, none⟩ = some (.slice (some ⟨g, 0, none⟩) nl cp2) ∧ w'.cell? ⟨g, j, none⟩ = some (.pointer (some ⟨pb2 X.node, 0, none⟩)) ∧ w'.cell? ⟨pb2 X.node, 2, none⟩ = some (.int .u32 X.epoch) ∧ w'.cell? ⟨pb, 2, none⟩ = some (.int .u32 me)) (by kernel_rfl) (by kernel_rfl) (fun d _ _ _ _ h => by cases d <;> exact h) ?_
                repeat (first | (refine plan_skip rfl rfl ?_; simp only [List.getElem_toArray, List.getElem_cons_succ, List.getElem_cons_zero, Act.put, List.setIfInBounds_toArray, List.set_cons_zero, List.set_cons_succ]) | (refine plan_pass2 rfl rfl ?_; simp only [List.getElem_toArray, List.getElem_cons_succ, List.getElem_cons_zero, Act.put, List.setIfInBounds_toArray, List.set_cons_zero, List.set_cons_succ]) | (refine plan_pass3 rfl rfl ?_; simp only [List.getElem_toArray, List.getElem_cons_succ, List.getElem_cons_zero, Act.put, List.setIfInBounds_toArray, List.set_cons_zero, List.set_cons_succ]) | (refine plan_take (v := ?_) rfl rfl ?_ ?_; rotate_left; (focus (intro w0; go_simp; try with_reducible rfl)); simp only [List.getElem_toArray, List.getElem_cons_succ, List.getElem_cons_zero, Act.put, List.setIfInBounds_toArray, List.set_cons_zero, List.set_cons_succ]) | (refine plan_held (v := ?_) rfl rfl hS12 ?_ ?_; rotate_left; (focus (intro w0 hSw; (try dsimp only at hSw); go_split_ands; go_simp; try with_reducible rfl)); simp only [List.getElem_toArray, List.getElem_cons_succ, List.getElem_cons_zero, Act.put, List.setIfInBounds_toArray, List.set_cons_zero, List.set_cons_succ])  | (refine plan_skip1 rfl rfl hS12 ?_; simp only [List.getElem_toArray, List.getElem_cons_succ, List.getElem_cons_zero, Act.put, List.setIfInBounds_toArray, List.set_cons_zero, List.set_cons_succ]))
                try simp only [hbe]
                repeat (first | (refine plan_skip rfl rfl ?_; simp only [List.getElem_toArray, List.getElem_cons_succ, List.getElem_cons_zero, Act.put, List.setIfInBounds_toArray, List.set_cons_zero, List.set_cons_succ]) | (refine plan_pass2 rfl rfl ?_; simp only [List.getElem_toArray, List.getElem_cons_succ, List.getElem_cons_zero, Act.put, List.setIfInBounds_toArray, List.set_cons_zero, List.set_cons_succ]) | (refine plan_pass3 rfl rfl ?_; simp only [List.getElem_toArray, List.getElem_cons_succ, List.getElem_cons_zero, Act.put, List.setIfInBounds_toArray, List.set_cons_zero, List.set_cons_succ]) | (refine plan_take (v := ?_) rfl rfl ?_ ?_; rotate_left; (focus (intro w0; go_simp; try with_reducible rfl)); simp only [List.getElem_toArray, List.getElem_cons_succ, List.getElem_cons_zero, Act.put, List.setIfInBounds_toArray, List.set_cons_zero, List.set_cons_succ]) | (refine plan_held (v := ?_) rfl rfl hS12 ?_ ?_; rotate_left; (focus (intro w0 hSw; (try dsimp only at hSw); go_split_ands; go_simp; try with_reducible rfl)); simp only [List.getElem_toArray, List.getElem_cons_succ, List.getElem_cons_zero, Act.put, List.setIfInBounds_toArray, List.set_cons_zero, List.set_cons_succ])  | (refine plan_skip1 rfl rfl hS12 ?_; simp only [List.getElem_toArray, List.getElem_cons_succ, List.getElem_cons_zero, Act.put, List.setIfInBounds_toArray, List.set_cons_zero, List.set_cons_succ]))
                refine plan_nil ?_
                clear hS12 hS14
                go_wp2
                go_ret3
                exact HR.out _ (HMN.out.drew)
end Go.Proofs.YtidkapanpieflaaGreat
