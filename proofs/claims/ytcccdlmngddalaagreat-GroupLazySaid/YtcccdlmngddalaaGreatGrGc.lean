/- group.settle: contract. -/
import Derived.Test.YtcccdlmngddalaaGreatGrGa
import Derived.Test.YtcccdlmngddalaaGreatGrZe
namespace Go.Proofs.YtcccdlmngddalaaGreat
open Go.RowKit Go.Sort
set_option linter.unusedVariables false
set_option linter.unusedSimpArgs false
def setT (T : Ad → Option Int) (l : List Ad) (t : Int) (a : Ad) : Option Int := if a ∈ l then some t else T a
theorem setT_take {T : Ad → Option Int} {l : List Ad} {t : Int} {j : Nat} {x : Ad} (hx : l[j]? = some x) : setT T (l.take (j + 1)) t = upd (setT T (l.take j) t) x (some t) := by
  funext a
  unfold setT upd
  rw [List.take_add_one, hx]
  simp only [Option.toList_some, List.mem_append, List.mem_singleton]
  by_cases h : a = x
  · simp [h]
  · simp [h]
/-- those of a list of keys that are not on are struck -/
def clnT (T : Ad → Option Int) (ks : List (Ad × Int)) (on : List Ad) (a : Ad) : Option Int := if a ∈ ks.map (·.1) ∧ a ∉ on then none else T a
def onT (T : Ad → Option Int) (on : List Ad) (a : Ad) : Option Int := if a ∈ on then T a else none
theorem clnT_all {T : Ad → Option Int} {L ks : List (Ad × Int)} (h : TL L T) (hp : ks.Perm L) (on : List Ad) : clnT T ks on = onT T on := by
  funext a
  unfold clnT onT
  by_cases ho : a ∈ on
  · simp [ho]
  · by_cases hk : a ∈ ks.map (·.1)
    · simp [ho, hk]
    · rw [if_neg (fun h => hk h.1), if_neg ho, h.look]
      exact aget_none fun hx => hk ((hp.map _).mem_iff.2 hx)
theorem clnT_take {T : Ad → Option Int} {ks : List (Ad × Int)} {on : List Ad} {j : Nat} {p : Ad × Int} (hp : ks[j]? = some p) : clnT T (ks.take (j + 1)) on = if p.1 ∈ on then clnT T (ks.take j) on else upd (clnT T (ks.take j) on) p.1 none := by
  have e : ∀ a, a ∈ (ks.take (j + 1)).map (·.1) ↔ a ∈ (ks.take j).map (·.1) ∨ a = p.1 := fun a => by
    rw [List.take_add_one, hp]
    simp
  by_cases ho : p.1 ∈ on
  · rw [if_pos ho]
    funext a
    unfold clnT
    simp only [e]
    by_cases h : a = p.1
    · subst h; simp [ho]
    · simp [h]
  · rw [if_neg ho]
    funext a
    unfold clnT upd
    simp only [e]
    by_cases h : a = p.1
    · subst h; simp [ho]
    · simp [h]
section
variable {w : World} {p c b : Nat} {G : Gs} {a1 : Option Addr} {n1 k1 : Nat} {a2 : Option Addr} {n2 k2 : Nat} {L : List (Ad × Int)} (h : GIn w p c b G a1 n1 k1 a2 n2 k2 L)
include h
theorem GIn.setC {w' : World} {T : Ad → Option Int} {L' : List (Ad × Int)} (hm : Mod (fun k => k = b) w w') (hc : ClkAt w' c b T L') : GIn w' p c b { G with T := T } a1 n1 k1 a2 n2 k2 L' := by
  have hN : NotA w (fun k => k = b) := fun k hk cur z e => by
    subst hk
    obtain ⟨es, ck, hb, _⟩ := h.clk.mp
    rw [hb] at e
    cases e
  exact ⟨h.blk.keep hm fun e => h.ne.2.1 e, h.on.keepT hm hN, h.off.keepT hm hN, hc⟩
set_option maxRecDepth 100000 in
set_option maxHeartbeats 1000000 in
theorem ghave {v : Value} {l : List Ad} (t : Int) (hl : RT w v l) (hg : ∀ a ∈ l, a.good = true) (hn : l.length ≤ 2000) : Calls Tryz.prog 48 #[.pointer (some ⟨p, 0, none⟩), v, .int .i64 t] w fun e w' => e = .returned (.tuple #[]) ∧ (∃ L', GIn w' p c b { G with T := setT G.T l t } a1 n1 k1 a2 n2 k2 L') ∧ Mod (fun k => k = b) w w' := by
  obtain ⟨n, hnl⟩ : ∃ n, n = l.length := ⟨_, rfl⟩
  have hrd := hl.rd
  obtain ⟨ad, cap, rfl, hnc, hcm, _⟩ := hrd
  unfold maxLen at hcm
  rw [← hnl] at hnc hn hl ⊢
  have HN := Lib.hid hnl
  have HL := Lib.hid hl
  have HH := Lib.hid h
  have HGD := Lib.hid hg
  have HNA : Hid (NotA w (fun k => k = b)) := Lib.hid fun k hk cur z e => by
    subst hk
    obtain ⟨es, ck, hb, _⟩ := h.clk.mp
    rw [hb] at e
    cases e
  have hbl := h.clk.mp.lt
  have hpl := h.blk.lt
  clear hnl hl h hg
  go_enter Tryz.func48, Tryz.ntmps48
  go_wp2_with fail
  go_loopw [10] (fun iv wr => ∃ (j : Nat) (L' : List (Ad × Int)), j ≤ n ∧ iv = .int .i64 (j : Int) ∧ GIn wr p c b { G with T := setT G.T (l.take j) t } a1 n1 k1 a2 n2 k2 L' ∧ Mod (fun k => k = b) w wr) (fun iv _ => n - (intOf iv).toNat)
  case atStart => exact ⟨0, L, Nat.zero_le _, rfl, by have := HH.out; exact ⟨this.blk, this.on, this.off, ⟨this.clk.blk, this.clk.mp, this.clk.tl.nd, this.clk.tl.gd, this.clk.tl.look⟩⟩, Mod.refl _ _⟩
  case round =>
    obtain ⟨j, L', hj, rfl, hI, hm⟩ := hrel
    have HI := Lib.hid hI
    have HM := Lib.hid hm
    clear hI hm
    by_cases hlt : j < n
    · obtain ⟨x, hx⟩ : ∃ x, l[j]? = some x := ⟨_, List.getElem?_eq_getElem (by rw [← HN.out]; exact hlt)⟩
      have hrow : RowA wr (fun _ => True) (.slice ad n cap) l := HL.out.keepT HM.out HNA.out
      obtain ⟨g, o, cap1, e1, q1, q2, hxa⟩ := hrow.rd.at (j := j) (by rw [← HN.out]; exact hlt)
      injection e1 with e1 e1a e1b
      subst e1
      have HXR := Lib.hid (hxa j x hx)
      have HXG := Lib.hid hx
      have HXS := Lib.hid x.c_sz
      have HX1 := Lib.hid x.c_one
      have HGX := Lib.hid (HGD.out x (List.mem_of_getElem? hx))
      have HNB0 := Lib.hid (Blk.new wr 36 (adrC false z16))
      have HFIT : Hid (0 + x.c.length ≤ (adrC false z16).length) := Lib.hid (by rw [x.c_len]; decide)
      have HBS : Hid (b < wr.heap.size) := Lib.hid HI.out.clk.mp.lt
      clear e1a e1b q1 q2 hxa hx hrow
      go_wp2_with (first
        | (refine wpList_load_midG rfl _ _ rfl g (o + j * 17) rfl x.c _ HXR.out Tryz.underlying36 rfl HXS.out ?_)
        | (refine wpList_store_blk rfl _ _ _ rfl wr.heap.size 0 36 (adrC false z16) x.c rfl rfl HNB0.out HFIT.out HXS.out HX1.out ?_; intro w3 HB3 HM3; have HB := Lib.hid (splice_all HB3.out (by rw [x.c_len]; rfl)); have HM4 : Hid (Mod (fun _ => False) wr w3) := Lib.hid (((Mod.refl _ _).alloc _).trans HM3.out fun x hx => .inr (by omega)); have HI3 := Lib.hid (HI.out.keep0 HM4.out)))
      have hS : w3.drew.cell? ⟨p, 6, none⟩ = some (.pointer (some ⟨c, 0, none⟩)) ∧ Blk w3.drew wr.heap.size 36 x.c := ⟨HI3.out.blk.cell rfl, HB.out⟩
      refine wp_region_plan [] [(0, 0), (1, 0), (2, 0), (3, 1), (4, 1), (6, 0), (5, 2), (7, 2)] (fun w' : World => w'.cell? ⟨p, 6, none⟩ = some (.pointer (some ⟨c, 0, none⟩)) ∧ Blk w' wr.heap.size 36 x.c) (by kernel_rfl) (by kernel_rfl) (fun d v c a w h => by first | (cases d <;> exact h) | exact HP d v c a w h) ?_
      repeat ((first | refine plan_skip rfl rfl ?_ | refine plan_pass2 rfl rfl ?_ | refine plan_pass3 rfl rfl ?_ | (refine plan_take (v := ?_) rfl rfl ?_ ?_; rotate_left; focus (intro w0; go_simp; try with_reducible rfl)) | (refine plan_held (v := ?_) rfl rfl hS ?_ ?_; rotate_left; focus (intro w0 hSw; (try dsimp only at hSw); go_split_ands; go_simp; try with_reducible rfl)) | refine plan_skip1 rfl rfl hS ?_); simp only [List.getElem_toArray, List.getElem_cons_succ, List.getElem_cons_zero, Act.put, List.setIfInBounds_toArray, List.set_cons_zero, List.set_cons_succ])
      (refine plan_held (v := .agg x.c.toArray) rfl rfl hS (fun w0 h0 => exec_load_blk _ _ rfl wr.heap.size 0 rfl 36 x.c x.c _ w0 h0.2 (List.take_of_length_le (Nat.le_refl _)) Tryz.underlying36 rfl HXS.out) ?_; try simp only [List.getElem_toArray, List.getElem_cons_succ, List.getElem_cons_zero, Act.put, List.setIfInBounds_toArray, List.set_cons_zero, List.set_cons_succ])
      repeat ((first | refine plan_skip rfl rfl ?_ | refine plan_pass2 rfl rfl ?_ | refine plan_pass3 rfl rfl ?_ | (refine plan_take (v := ?_) rfl rfl ?_ ?_; rotate_left; focus (intro w0; go_simp; try with_reducible rfl)) | (refine plan_held (v := ?_) rfl rfl hS ?_ ?_; rotate_left; focus (intro w0 hSw; (try dsimp only at hSw); go_split_ands; go_simp; try with_reducible rfl)) | refine plan_skip1 rfl rfl hS ?_); simp only [List.getElem_toArray, List.getElem_cons_succ, List.getElem_cons_zero, Act.put, List.setIfInBounds_toArray, List.set_cons_zero, List.set_cons_succ])
      (refine plan_do rfl rfl fun K hK => ?_; try simp only [List.getElem_toArray, List.getElem_cons_succ, List.getElem_cons_zero])
      go_simp
      refine (key_ad x _).mono ?_
      rintro e W1 ⟨rfl, hm1⟩
      have HI4 : Hid (GIn W1 p c b { G with T := setT G.T (l.take j) t } a1 n1 k1 a2 n2 k2 L') := Lib.hid (HI3.out.keep0 ((Mod.refl _ w3).drew.trans hm1 fun _ f => f.elim))
      have HM5 : Hid (Mod (fun k => k = b) w W1) := Lib.hid (HM.out.trans (HM4.out.drew.trans hm1 fun _ f => f.elim) fun _ f => f.elim)
      have hs1 := hm1.cell (fun f => f) hS.1
      have hs2 := Blk.keep hS.2 hm1 fun f => f
      refine hK _ _ ⟨hs1, hs2⟩ ?_
      clear hK K hm1 hS
      try simp only [List.getElem_toArray, List.getElem_cons_succ, List.getElem_cons_zero, Act.put, List.setIfInBounds_toArray, List.set_cons_zero, List.set_cons_succ]
      (refine plan_do rfl rfl fun K hK => ?_; try simp only [List.getElem_toArray, List.getElem_cons_succ, List.getElem_cons_zero])
      go_simp
      refine (cSet HI4.out.clk HGX.out t).mono ?_
      rintro e W2 ⟨⟨y, rfl⟩, hc2, hm2⟩
      have HI5 := Lib.hid (HI4.out.setC hm2 hc2)
      have HM6 : Hid (Mod (fun k => k = b) w W2) := Lib.hid (HM5.out.trans hm2 fun k hk => .inl hk)
      refine hK _ _ ⟨hm2.cell (fun e => HI4.out.ne.2.1 e) hs1, Blk.keep hs2 hm2 fun e => by have := HBS.out; omega⟩ ?_
      clear hK K hc2 hm2 hs1 hs2
      try simp only [List.getElem_toArray, List.getElem_cons_succ, List.getElem_cons_zero, Act.put, List.setIfInBounds_toArray, List.set_cons_zero, List.set_cons_succ]
      refine plan_nil ?_
      go_wp2
      go_roundw
      case rel => exact ⟨j + 1, aput L' x t, by omega, by go_num, by rw [setT_take HXG.out]; exact HI5.out, HM6.out⟩
      case measure => simp [intOf]; omega
    · obtain rfl : j = n := by omega
      have HT : Hid (l.take j = l) := Lib.hid (by rw [HN.out, List.take_length])
      go_wp2
      go_end0
      exact ⟨rfl, ⟨L', by have := HI.out; rwa [HT.out] at this⟩, HM.out⟩
set_option maxRecDepth 100000 in
set_option maxHeartbeats 1000000 in
theorem gclean (hon : AS G.on) (hlo : G.on.length ≤ 2000) (hL : L.length ≤ 3000) : Calls Tryz.prog 50 #[.pointer (some ⟨p, 0, none⟩)] w fun e w' => e = .returned (.tuple #[]) ∧ (∃ L', GIn w' p c b { G with T := onT G.T G.on } a1 n1 k1 a2 n2 k2 L') ∧ Mod (fun k => k = b) w w' := by
  have c6 : w.cell? ⟨p, 6, none⟩ = some (.pointer (some ⟨c, 0, none⟩)) := h.blk.cell rfl
  have HK := Lib.hid (cKeys h.clk hL)
  have HH := Lib.hid h
  have HON := Lib.hid hon
  have hbl := h.clk.mp.lt
  have hpl := h.blk.lt
  clear h hon
  go_enter Tryz.func50, Tryz.ntmps50
  go_wp2_with fail
  refine HK.out.mono ?_
  rintro e w1 ⟨v, ks, rfl, hp, hr, hm⟩
  obtain ⟨n, hn⟩ : ∃ n, n = ks.length := ⟨_, rfl⟩
  have hn3 : n ≤ 3000 := by rw [hn, hp.length_eq]; exact hL
  have hr' := hr
  unfold RowS at hr'
  obtain ⟨ad, cap, rfl, hnc, hcm, hg⟩ := Row.form hr'
  unfold maxLen at hcm
  rw [← hn] at hnc ⊢
  have HN := Lib.hid hn
  have HP := Lib.hid hp
  have HM := Lib.hid hm
  have H1 := Lib.hid (HH.out.keep0 hm)
  have HG : Hid (0 < n → ∃ g, ad = some ⟨g, 0, none⟩ ∧ w.heap.size ≤ g ∧ ∀ j p, ks[j]? = some p → w1.cell? ⟨g, j, none⟩ = some (.string ⟨p.1.kk.toArray⟩)) := Lib.hid fun h0 => by
    obtain ⟨g, e, hf, _, hc⟩ := hg (by rw [← hn]; exact h0)
    exact ⟨g, e, hf, fun j p hj => hc j _ (by rw [List.getElem?_map, hj]; rfl)⟩
  clear hn hp hr hm hr' hg HK
  go_wp2_with fail
  go_loopw [12] (fun iv wr => ∃ (j : Nat) (L' : List (Ad × Int)), j ≤ n ∧ iv = .int .i64 (j : Int) ∧ GIn wr p c b { G with T := clnT G.T (ks.take j) G.on } a1 n1 k1 a2 n2 k2 L' ∧ Mod (fun k => k = b) w1 wr) (fun iv _ => n - (intOf iv).toNat)
  case atStart => exact ⟨0, L, Nat.zero_le _, rfl, by
    have := H1.out
    have e : clnT G.T (ks.take 0) G.on = G.T := by funext a; simp [clnT]
    rw [e]
    exact this, Mod.refl _ _⟩
  case round =>
    obtain ⟨j, L', hj, rfl, hI, hm⟩ := hrel
    have HI := Lib.hid hI
    have HMW := Lib.hid hm
    clear hI hm
    by_cases hlt : j < n
    · obtain ⟨q, hq⟩ : ∃ q, ks[j]? = some q := ⟨_, List.getElem?_eq_getElem (by rw [← HN.out]; exact hlt)⟩
      obtain ⟨g, rfl, hgw, hcell⟩ := HG.out (by omega)
      obtain ⟨x, hx⟩ : ∃ x, x = q.1 := ⟨_, rfl⟩
      have hxg : x.good = true := by rw [hx]; exact HH.out.clk.tl.gd q (HP.out.mem_iff.1 (List.mem_of_getElem? hq))
      have x0 : wr.cell? ⟨g, j, none⟩ = some (.string x.key) := HMW.out.cell (fun e => by have h2 : g = b := e; omega) (by rw [hx]; exact hcell j q hq)
      have HQ := Lib.hid hq
      have HX := Lib.hid hx
      have HXG := Lib.hid hxg
      have HXS := Lib.hid x.c_sz
      have HX1 := Lib.hid x.c_one
      have HNB0 := Lib.hid (Blk.new wr 36 (adrC false z16))
      have HFIT : Hid (0 + x.c.length ≤ (adrC false z16).length) := Lib.hid (by rw [x.c_len]; decide)
      have HBS : Hid (b < wr.heap.size) := Lib.hid HI.out.clk.mp.lt
      clear hcell hq hx hxg
      go_wp2_with (first
        | (go_at_call 83; refine (Read_ad HXG.out _).mono ?_; rintro e w2 ⟨rfl, hm2⟩; have HM2 := Lib.hid hm2; have HNB2 := Lib.hid (Blk.new w2 36 (adrC false z16)); have HI2 := Lib.hid (HI.out.keep0 hm2); clear hm2)
        | (refine wpList_store_blk rfl _ _ _ rfl w2.heap.size 0 36 (adrC false z16) x.c rfl rfl HNB2.out HFIT.out HXS.out HX1.out ?_; intro w3 HB3 HM3; have HB := Lib.hid (splice_all HB3.out (by rw [x.c_len]; rfl)); have HM4 : Hid (Mod (fun _ => False) w2 w3) := Lib.hid (((Mod.refl _ _).alloc _).trans HM3.out fun x hx => .inr (by omega)); have HI3 := Lib.hid (HI2.out.keep0 HM4.out)))
      have hS : w3.drew.cell? ⟨p, 3, none⟩ = some (.slice a1 n1 k1) ∧ Blk w3.drew w2.heap.size 36 x.c := ⟨HI3.out.blk.cell rfl, HB.out⟩
      refine wp_region_plan [6] [(0, 0), (1, 0), (2, 0), (3, 0), (4, 1), (5, 1), (6, 3), (7, 0)] (fun w' : World => w'.cell? ⟨p, 3, none⟩ = some (.slice a1 n1 k1) ∧ Blk w' w2.heap.size 36 x.c) (by kernel_rfl) (by kernel_rfl) (fun d v c a w h => by first | (cases d <;> exact h) | exact HP d v c a w h) ?_
      repeat ((first | refine plan_skip rfl rfl ?_ | refine plan_pass2 rfl rfl ?_ | refine plan_pass3 rfl rfl ?_ | (refine plan_take (v := ?_) rfl rfl ?_ ?_; rotate_left; focus (intro w0; go_simp; try with_reducible rfl)) | (refine plan_held (v := ?_) rfl rfl hS ?_ ?_; rotate_left; focus (intro w0 hSw; (try dsimp only at hSw); go_split_ands; go_simp; try with_reducible rfl)) | refine plan_skip1 rfl rfl hS ?_); simp only [List.getElem_toArray, List.getElem_cons_succ, List.getElem_cons_zero, Act.put, List.setIfInBounds_toArray, List.set_cons_zero, List.set_cons_succ])
      (refine plan_held (v := .agg x.c.toArray) rfl rfl hS (fun w0 h0 => exec_load_blk _ _ rfl w2.heap.size 0 rfl 36 x.c x.c _ w0 h0.2 (List.take_of_length_le (Nat.le_refl _)) Tryz.underlying36 rfl HXS.out) ?_; try simp only [List.getElem_toArray, List.getElem_cons_succ, List.getElem_cons_zero, Act.put, List.setIfInBounds_toArray, List.set_cons_zero, List.set_cons_succ])
      (refine plan_end rfl rfl rfl fun K hK => ?_; (try simp only [List.getElem_toArray, List.getElem_cons_succ, List.getElem_cons_zero]))
      go_simp
      refine (Has_any x (w := w3.drew) HI3.out.on.rd HON.out.1 (by have := hlo; show G.on.length ≤ 5000; omega)).mono ?_
      rintro e W1 ⟨rfl, hm1⟩
      have hm13 : Mod (fun _ => False) w3 W1 := (Mod.refl _ w3).drew.trans hm1 fun _ f => f.elim
      have HI4 := Lib.hid (HI3.out.keep0 hm13)
      have HM5 : Hid (Mod (fun k => k = b) w1 W1) := Lib.hid (((HMW.out.trans HM2.out fun _ f => f.elim).trans HM4.out fun _ f => f.elim).trans hm13 fun _ f => f.elim)
      refine hK _ _ ?_
      clear hK K hm1 hm13 hS
      try simp only [List.getElem_toArray, List.getElem_cons_succ, List.getElem_cons_zero, Act.put, List.setIfInBounds_toArray, List.set_cons_zero, List.set_cons_succ]
      have HCT := Lib.hid (clnT_take (T := G.T) (on := G.on) HQ.out)
      by_cases ho : x ∈ G.on
      · have hd : decide (x ∈ G.on) = true := decide_eq_true ho
        have HO := Lib.hid ho
        rw [show (decide (x ∈ ({ G with T := clnT G.T (ks.take j) G.on } : Gs).on)) = true from hd]
        clear hd ho
        repeat ((first | refine plan_skip rfl rfl ?_ | refine plan_pass2 rfl rfl ?_ | refine plan_pass3 rfl rfl ?_ | (refine plan_take (v := ?_) rfl rfl ?_ ?_; rotate_left; focus (intro w0; go_simp; try with_reducible rfl))); simp only [List.getElem_toArray, List.getElem_cons_succ, List.getElem_cons_zero, Act.put, List.setIfInBounds_toArray, List.set_cons_zero, List.set_cons_succ])
        refine plan_nil ?_
        go_wp2
        go_roundw
        case rel => exact ⟨j + 1, L', by omega, by go_num, by rw [HCT.out, ← HX.out, if_pos HO.out]; exact HI4.out, HM5.out⟩
        case measure => simp [intOf]; omega
      · have hd : decide (x ∈ G.on) = false := decide_eq_false ho
        have HO := Lib.hid ho
        rw [show (decide (x ∈ ({ G with T := clnT G.T (ks.take j) G.on } : Gs).on)) = false from hd]
        clear hd ho
        have c7 : W1.cell? ⟨p, 6, none⟩ = some (.pointer (some ⟨c, 0, none⟩)) := HI4.out.blk.cell rfl
        repeat ((first | refine plan_skip rfl rfl ?_ | refine plan_pass2 rfl rfl ?_ | refine plan_pass3 rfl rfl ?_ | (refine plan_take (v := ?_) rfl rfl ?_ ?_; rotate_left; focus (intro w0; go_simp; try with_reducible rfl))); simp only [List.getElem_toArray, List.getElem_cons_succ, List.getElem_cons_zero, Act.put, List.setIfInBounds_toArray, List.set_cons_zero, List.set_cons_succ])
        refine plan_nil ?_
        go_wp2_with (go_at_call 101; refine (cCut HI4.out.clk HXG.out).mono ?_; rintro e W2 ⟨⟨y, rfl⟩, hc2, hm2⟩; have HI5 := Lib.hid (HI4.out.setC hm2 hc2); have HM6 : Hid (Mod (fun k => k = b) w1 W2) := Lib.hid (HM5.out.trans hm2 fun k hk => .inl hk); clear hc2 hm2)
        go_roundw
        case rel => exact ⟨j + 1, _, by omega, by go_num, by rw [HCT.out, ← HX.out, if_neg HO.out]; exact HI5.out, HM6.out⟩
        case measure => simp [intOf]; omega
    · obtain rfl : j = n := by omega
      have HT : Hid (clnT G.T (ks.take j) G.on = onT G.T G.on) := Lib.hid (by rw [HN.out, List.take_length]; exact clnT_all HH.out.clk.tl HP.out _)
      go_wp2
      go_end0
      exact ⟨rfl, ⟨L', by have := HI.out; rwa [HT.out] at this⟩, (HM.out.mono fun _ f => f.elim).trans HMW.out fun k hk => .inl hk⟩
end
end Go.Proofs.YtcccdlmngddalaaGreat
namespace Go.Proofs.YtcccdlmngddalaaGreat
open Go.RowKit Go.Sort
set_option linter.unusedVariables false
set_option linter.unusedSimpArgs false
def dueB (T : Ad → Option Int) (n : Int) (a : Ad) : Bool := match T a with
  | some t => decide (t ≤ n)
  | none => false
def nowG (G : Gs) (n : Int) : Int := max G.now (min n 1000000000000)
def goneG (G : Gs) (n : Int) : Bool := G.ex && decide (G.till ≤ nowG G n)
def settleG (G : Gs) (n : Int) : Gs :=
  { G with
    now := nowG G n
    ex := G.ex && !goneG G n
    on := G.on.filter fun a => !dueB G.T (nowG G n) a
    off := if goneG G n then [] else if G.ex then orA G.off (G.on.filter fun a => dueB G.T (nowG G n) a) else G.off
    T := updn G.T (nowG G n) }
/-- Good groups: rising lists, numbers in bounds -/
structure GOk (G : Gs) : Prop where
  on : AS G.on
  off : AS G.off
  len : G.on.length + G.off.length ≤ 400
  now0 : 0 ≤ G.now
  now1 : G.now ≤ 1000000000000
  dom : ∀ a, G.T a ≠ none → a ∈ G.on
  tb : ∀ a t, G.T a = some t → -4000000000000 ≤ t ∧ t ≤ 4000000000000
  till : -4000000000000 ≤ G.till ∧ G.till ≤ 4000000000000
theorem dueB_iff {T : Ad → Option Int} {n : Int} {a : Ad} : dueB T n a = true ↔ ∃ t, T a = some t ∧ t ≤ n := by
  unfold dueB
  cases hT : T a with
  | none => simp
  | some t => simp
theorem out_due {L ks : List (Ad × Int)} {T : Ad → Option Int} (h : TL L T) {now : Int} (hp : ks.Perm (dueL now L)) (a : Ad) : a ∈ ks.map (·.1) ↔ dueB T now a = true := by
  rw [dueB_iff, List.mem_map]
  constructor
  · rintro ⟨q, hq, rfl⟩
    have := hp.mem_iff.1 hq
    unfold dueL at this
    rw [List.mem_filter] at this
    exact ⟨q.2, h.mem.2 this.1, by simpa using this.2⟩
  · rintro ⟨t, ht, hle⟩
    refine ⟨(a, t), hp.mem_iff.2 ?_, rfl⟩
    unfold dueL
    exact List.mem_filter.2 ⟨h.mem.1 ht, by simpa using hle⟩
theorem exp_on {L ks : List (Ad × Int)} {T : Ad → Option Int} (h : TL L T) {now : Int} (hp : ks.Perm (dueL now L)) {on : List Ad} (hon : AS on) : minA on (ofA (ks.map (·.1))) = on.filter (fun a => !dueB T now a) ∧ andA on (ofA (ks.map (·.1))) = on.filter fun a => dueB T now a := by
  have ho := ofA_as (ks.map (·.1))
  have key : ∀ a ∈ on, (a ∈ ofA (ks.map (·.1)) ↔ dueB T now a = true) := fun a ha => by
    rw [mem_ofA, out_due h hp]
    exact ⟨fun h => h.1, fun h' => ⟨h', hon.2 a ha⟩⟩
  constructor
  · refine AS.ext (minA_as hon ho) (hon.filter _) fun a => ?_
    rw [mem_minA hon ho, List.mem_filter]
    constructor
    · rintro ⟨h1, h2⟩
      exact ⟨h1, by rw [key a h1] at h2; simpa using h2⟩
    · rintro ⟨h1, h2⟩
      exact ⟨h1, by rw [key a h1]; simpa using h2⟩
  · refine AS.ext (andA_as hon ho) (hon.filter _) fun a => ?_
    rw [mem_andA hon ho, List.mem_filter]
    constructor
    · rintro ⟨h1, h2⟩
      exact ⟨h1, (key a h1).1 h2⟩
    · rintro ⟨h1, h2⟩
      exact ⟨h1, (key a h1).2 h2⟩
theorem exp_none {L ks : List (Ad × Int)} {T : Ad → Option Int} (h : TL L T) {now : Int} (hp : ks.Perm (dueL now L)) (h0 : ks = []) (on : List Ad) : on.filter (fun a => !dueB T now a) = on ∧ on.filter (fun a => dueB T now a) = [] := by
  have hd : ∀ a, dueB T now a = false := fun a => by
    cases hd : dueB T now a with
    | false => rfl
    | true => have := (out_due h hp a).2 hd; rw [h0] at this; cases this
  constructor
  · exact List.filter_eq_self.2 fun a _ => by rw [hd]; rfl
  · exact List.filter_eq_nil_iff.2 fun a _ => by rw [hd]; simp
def gX (G : Gs) (n : Int) : Gs := { G with now := nowG G n, on := G.on.filter (fun a => !dueB G.T (nowG G n) a), off := if G.ex then orA G.off (G.on.filter fun a => dueB G.T (nowG G n) a) else G.off, T := updn G.T (nowG G n) }
set_option maxRecDepth 100000 in
set_option maxHeartbeats 4000000 in
theorem gsettle {N : Nat} (SO : SortOk N) {w : World} {p c b : Nat} {G : Gs} {a1 : Option Addr} {n1 k1 : Nat} {a2 : Option Addr} {n2 k2 : Nat} {L : List (Ad × Int)} (h : GIn w p c b G a1 n1 k1 a2 n2 k2 L) (ok : GOk G) (n : Int) (hN : (dueL (nowG G n) L).length ≤ N) :
    Calls Tryz.prog 41 #[.pointer (some ⟨p, 0, none⟩), .int .i64 n] w fun e w' => e = .returned (.tuple #[]) ∧ GAt w' p c b (settleG G n) ∧ Mod (fun k => k = p ∨ k = b) w w' := by
  have c1 : w.cell? ⟨p, 1, none⟩ = some (.int .i64 G.now) := h.blk.cell rfl
  have HH := Lib.hid h
  have OK := Lib.hid ok
  have HLL : Hid (L.length ≤ 400) := Lib.hid (by have h1 := h.clk.tl.len (D := G.on) ok.dom; have := ok.len; omega)
  have hlo : G.on.length ≤ 400 := by have := ok.len; omega
  have hlf : G.off.length ≤ 400 := by have := ok.len; omega
  have hpl := h.blk.lt
  have hbl := h.clk.mp.lt
  have HNE := Lib.hid h.ne
  obtain ⟨NW, hNW⟩ : ∃ NW, NW = nowG G n := ⟨_, rfl⟩
  have HNW := Lib.hid hNW
  rw [← hNW] at hN
  have HN := Lib.hid hN
  have HSO := Lib.hid SO
  have HGX : Hid (gX G n = { G with now := NW, on := G.on.filter (fun a => !dueB G.T NW a), off := (if G.ex then orA G.off (G.on.filter fun a => dueB G.T NW a) else G.off), T := updn G.T NW }) := Lib.hid (by rw [hNW]; rfl)
  clear h ok hNW hN SO
  obtain ⟨gb, hgb⟩ : ∃ gb, gb = goneG G n := ⟨_, rfl⟩
  have HGB := Lib.hid hgb
  have HGC : Hid (G.ex = true → decide (G.till ≤ NW) = gb) := Lib.hid fun h => by rw [hgb]; unfold goneG; rw [h, HNW.out]; rfl
  clear hgb
  go_enter Tryz.func41, Tryz.ntmps41
  go_wp2_with (refine wpList_store_blk1 rfl _ _ _ rfl p 1 90 _ (.int .i64 NW) rfl (by rw [HNW.out]; rfl) HH.out.blk (by simp [gC]) iSz rfl ?_; intro W1 HX1 HY1)
  have HI1 : Hid (GIn W1 p c b { G with now := NW } a1 n1 k1 a2 n2 k2 L) := Lib.hid ⟨HX1.out, HH.out.on.keepT HY1.out (HH.out.blk.notA (by decide)), HH.out.off.keepT HY1.out (HH.out.blk.notA (by decide)), HH.out.clk.keep HY1.out (fun e => HNE.out.1 e.symm) fun e => HNE.out.2.1 e.symm⟩
  have HM1 : Hid (Mod (fun k => k = p ∨ k = b) w W1) := Lib.hid (HY1.out.mono fun k hk => .inl (.inl hk))
  clear HX1 HY1
  cases hex : G.ex with
  | false =>
    have HE := Lib.hid hex
    have hS : W1.drew.cell? ⟨p, 2, none⟩ = some (.bool false) := by have := HI1.out.blk.cell (j := 2) rfl; rw [show ({ G with now := NW } : Gs).ex = G.ex from rfl, hex] at this; exact this
    clear hex
    refine wp_region_plan [] [(0, 0), (1, 0), (2, 0), (3, 0), (4, 1), (5, 0), (6, 0), (7, 0), (8, 0), (9, 1), (10, 0), (11, 0), (12, 0), (13, 1), (14, 0), (15, 0), (16, 0)] (fun w' : World => w'.cell? ⟨p, 2, none⟩ = some (.bool false)) (by kernel_rfl) (by kernel_rfl) (fun d v c a w h => by first | (cases d <;> exact h) | exact HP d v c a w h) ?_
    repeat ((first | refine plan_skip rfl rfl ?_ | refine plan_pass2 rfl rfl ?_ | refine plan_pass3 rfl rfl ?_ | (refine plan_take (v := ?_) rfl rfl ?_ ?_; rotate_left; focus (intro w0; go_simp; try with_reducible rfl)) | (refine plan_held (v := ?_) rfl rfl hS ?_ ?_; rotate_left; focus (intro w0 hSw; (try dsimp only at hSw); go_split_ands; go_simp; try with_reducible rfl)) | refine plan_skip1 rfl rfl hS ?_); simp only [List.getElem_toArray, List.getElem_cons_succ, List.getElem_cons_zero, Act.put, List.setIfInBounds_toArray, List.set_cons_zero, List.set_cons_succ])
    refine plan_nil ?_
    clear hS
    have hS3 : W1.drew.drew.cell? ⟨p, 6, none⟩ = some (.pointer (some ⟨c, 0, none⟩)) ∧ W1.drew.drew.cell? ⟨p, 1, none⟩ = some (.int .i64 NW) := ⟨HI1.out.blk.cell rfl, HI1.out.blk.cell rfl⟩
    go_wp2_with fail
    refine wp_region_plan [8] [(0, 0), (1, 0), (2, 0), (3, 1), (4, 0), (5, 0), (6, 0), (7, 1), (10, 0), (8, 3), (9, 0)] (fun w' : World => w'.cell? ⟨p, 6, none⟩ = some (.pointer (some ⟨c, 0, none⟩)) ∧ w'.cell? ⟨p, 1, none⟩ = some (.int .i64 NW)) (by kernel_rfl) (by kernel_rfl) (fun d v c a w h => by first | (cases d <;> exact h) | exact HP d v c a w h) ?_
    repeat ((first | refine plan_skip rfl rfl ?_ | refine plan_pass2 rfl rfl ?_ | refine plan_pass3 rfl rfl ?_ | (refine plan_take (v := ?_) rfl rfl ?_ ?_; rotate_left; focus (intro w0; go_simp; try with_reducible rfl)) | (refine plan_held (v := ?_) rfl rfl hS3 ?_ ?_; rotate_left; focus (intro w0 hSw; (try dsimp only at hSw); go_split_ands; go_simp; try with_reducible rfl)) | refine plan_skip1 rfl rfl hS3 ?_); simp only [List.getElem_toArray, List.getElem_cons_succ, List.getElem_cons_zero, Act.put, List.setIfInBounds_toArray, List.set_cons_zero, List.set_cons_succ])
    (refine plan_end rfl rfl rfl fun K hK => ?_; (try simp only [List.getElem_toArray, List.getElem_cons_succ, List.getElem_cons_zero]))
    go_simp
    refine (cPop HSO.out (HI1.out.clk.keep0 ((Mod.refl _ W1).drew.drew)) (by have := HLL.out; omega) NW HN.out).mono ?_
    rintro e W2 ⟨v, ks, L', rfl, hp, hr, hc, hm⟩
    obtain ⟨m, hmk⟩ : ∃ m, m = ks.length := ⟨_, rfl⟩
    have hr' := hr
    unfold RowS at hr'
    obtain ⟨ad, cap, rfl, hnc, hcm, hg⟩ := Row.form hr'
    unfold maxLen at hcm
    rw [← hmk] at hnc ⊢
    have hm4 : m ≤ 400 := by
      have h1 := hp.length_eq
      have h2 := List.length_filter_le (fun p : Ad × Int => decide (p.2 ≤ NW)) L
      unfold dueL at h1
      have := HLL.out
      omega
    have HMK := Lib.hid hmk
    have HP := Lib.hid hp
    have HG : Hid (0 < m → ∃ g, ad = some ⟨g, 0, none⟩ ∧ ∀ j p, ks[j]? = some p → W2.cell? ⟨g, j, none⟩ = some (.string ⟨p.1.kk.toArray⟩)) := Lib.hid fun h0 => by
      obtain ⟨g, e, hf, _, hc⟩ := hg (by rw [← hmk]; exact h0)
      exact ⟨g, e, fun j p hj => hc j _ (by rw [List.getElem?_map, hj]; rfl)⟩
    have HI2 : Hid (GIn W2 p c b { G with now := NW, T := updn G.T NW } a1 n1 k1 a2 n2 k2 L') := Lib.hid ((HI1.out.keep0 ((Mod.refl _ W1).drew.drew)).setC hm hc)
    have HM2 : Hid (Mod (fun k => k = p ∨ k = b) w W2) := Lib.hid (HM1.out.drew.drew.trans hm fun k hk => .inl (.inr hk))
    refine hK _ _ ?_
    clear hK K hp hr hr' hg hc hm hmk hS3 HI1 HM1
    try simp only [List.getElem_toArray, List.getElem_cons_succ, List.getElem_cons_zero, Act.put, List.setIfInBounds_toArray, List.set_cons_zero, List.set_cons_succ]
    repeat ((first | refine plan_skip rfl rfl ?_ | refine plan_pass2 rfl rfl ?_ | refine plan_pass3 rfl rfl ?_ | (refine plan_take (v := ?_) rfl rfl ?_ ?_; rotate_left; focus (intro w0; go_simp; try with_reducible rfl))); simp only [List.getElem_toArray, List.getElem_cons_succ, List.getElem_cons_zero, Act.put, List.setIfInBounds_toArray, List.set_cons_zero, List.set_cons_succ])
    refine plan_nil ?_
    go_wp2_with fail
    go_loopw [5, 46] (fun v5 iv wr => ∃ j : Nat, j ≤ m ∧ iv = .int .i64 (j : Int) ∧ RowA wr (fun q => W2.heap.size ≤ q) v5 ((ks.take j).map (·.1)) ∧ Mod (fun _ => False) W2 wr) (fun _ iv _ => m - (intOf iv).toNat)
    case atStart => exact ⟨0, Nat.zero_le _, rfl, RowA.nil _ _, Mod.refl _ _⟩
    case round =>
      obtain ⟨j, hj, rfl, hrow, hmw⟩ := hrel
      obtain ⟨a5, n5, c5, rfl⟩ := hrow.sl
      have HROW := Lib.hid hrow
      have HMW := Lib.hid hmw
      clear hrow hmw
      by_cases hlt : j < m
      · obtain ⟨q, hq⟩ : ∃ q, ks[j]? = some q := ⟨_, List.getElem?_eq_getElem (by rw [← HMK.out]; exact hlt)⟩
        obtain ⟨g, rfl, hcell⟩ := HG.out (by omega)
        obtain ⟨x, hx⟩ : ∃ x, x = q.1 := ⟨_, rfl⟩
        have hxg : x.good = true := by rw [hx]; exact HH.out.clk.tl.gd q (by have := HP.out.mem_iff.1 (List.mem_of_getElem? hq); unfold dueL at this; exact (List.mem_filter.1 this).1)
        have x0 : wr.cell? ⟨g, j, none⟩ = some (.string x.key) := HMW.out.cell (fun f => f) (by rw [hx]; exact hcell j q hq)
        obtain ⟨lj, hlj⟩ : ∃ lj, lj = (ks.take j).map (·.1) := ⟨_, rfl⟩
        rw [← hlj] at HROW
        have HSN : Hid ((ks.take (j + 1)).map (·.1) = (ks.take j).map (·.1) ++ [x]) := Lib.hid (by rw [List.take_add_one, hq, hx]; simp)
        have HXG := Lib.hid hxg
        have HXS := Lib.hid x.c_sz
        have HXL := Lib.hid x.c_len
        have HX1 := Lib.hid x.c_one
        have HFIT : Hid (0 + x.c.length ≤ (adrC false z16).length) := Lib.hid (by rw [x.c_len]; decide)
        have HLK : Hid (((ks.take j).map (·.1)).length ≤ 400) := Lib.hid (by rw [List.length_map, List.length_take]; omega)
        rw [← hlj] at HSN HLK
        clear hcell hq hx hxg hlj
        go_wp2_with (first
          | (go_at_call 83; refine (Read_ad HXG.out _).mono ?_; rintro e w2 ⟨rfl, hm2⟩; have HMR : Hid (Mod (fun _ => False) W2 w2) := Lib.hid (HMW.out.trans hm2 fun _ f => f.elim); have HNB2 := Lib.hid (Blk.new w2 36 (adrC false z16)); have HRR := Lib.hid (HROW.out.keep0 hm2); clear hm2)
          | (refine wpList_store_blk rfl _ _ _ rfl w2.heap.size 0 36 (adrC false z16) x.c rfl rfl HNB2.out HFIT.out HXS.out HX1.out ?_; intro w3 HB3 HM3; have HB := Lib.hid (splice_all HB3.out (by rw [x.c_len]; rfl)); have HQ3 : Hid (Mod (fun _ => False) w2 w3) := Lib.hid (((Mod.refl _ _).alloc _).trans HM3.out fun x hx => .inr (by omega)); have HR3 := Lib.hid (HRR.out.keep0 HQ3.out); have HMS : Hid (Mod (fun _ => False) W2 w3) := Lib.hid (HMR.out.trans HQ3.out fun _ f => f.elim))
          | (refine wpList_load_blk rfl _ _ rfl w2.heap.size 0 rfl 36 x.c x.c _ HB.out (List.take_of_length_le (Nat.le_refl _)) Tryz.underlying36 rfl HXS.out ?_)
          | (refine wpList_buildSlice1 Tryz.elA rfl _ rfl x.c rfl HXL.out (by decide) (by decide) ?_)
          | (at_builtin; refine wpList_append_one Tryz.elA rfl (.tmp 55) (.tmp 57) rfl x.c.toArray (fun q => W2.heap.size ≤ q) (.slice a5 n5 c5) lj.length (cellsA lj) (HR3.out.alloc _) _ (allocNew w3 _) rfl rfl (by simpa using HXL.out) (by simpa using HX1.out) (by have := HLK.out; omega) (by have := HLK.out; unfold maxLen; omega) ?_; intro v9 w9 h9 h9m; have H9 := Lib.hid h9; have H9M := Lib.hid h9m; clear h9 h9m))
        go_roundw
        case rel =>
          refine ⟨j + 1, by omega, by go_num, ?_, (HMS.out.alloc _).trans H9M.out fun q hq => .inr (HR3.out.2 q hq)⟩
          rw [HSN.out]
          unfold RowA
          rw [cellsA_app, show cellsA [x] = x.c by simp [cellsA], List.length_append]
          have hsz := HMS.out.size
          exact H9.out.mono fun q hq => hq.elim (fun h => h) fun h => by simp at h; omega
        case measure => simp [intOf]; omega
      · obtain rfl : j = m := by omega
        have HOUT : Hid ((ks.take j).map (·.1) = ks.map (·.1)) := Lib.hid (by rw [HMK.out, List.take_length])
        have HRO : Hid (RowA wr (fun q => W2.heap.size ≤ q) (.slice a5 n5 c5) (ks.map (·.1))) := Lib.hid (by have := HROW.out; rwa [HOUT.out] at this)
        have hn5 : n5 = j := by have := HRO.out.len.1; rw [this, List.length_map]; exact HMK.out.symm
        subst hn5
        have HI3 := Lib.hid (HI2.out.keep0 HMW.out)
        have HM3 : Hid (Mod (fun k => k = p ∨ k = b) w wr) := Lib.hid (HM2.out.trans HMW.out fun _ f => f.elim)
        have HOL : Hid ((ks.map (·.1)).length ≤ 400) := Lib.hid (by rw [List.length_map, ← HMK.out]; exact hm4)
        have HEX := Lib.hid (exp_on HH.out.clk.tl HP.out OK.out.on)
        have HEN := Lib.hid (exp_none HH.out.clk.tl HP.out)
        clear HROW HOUT HI2 HM2 HG
        by_cases hn0 : n5 = 0
        · have hk0 : ks = [] := List.eq_nil_of_length_eq_zero (by rw [← HMK.out]; exact hn0)
          have HI5 : Hid (GIn wr p c b (gX G n) a1 n1 k1 a2 n2 k2 L') := Lib.hid (by
            obtain ⟨e1, e2⟩ := HEN.out hk0 G.on
            rw [HGX.out, e1, e2]
            have e3 : (if G.ex then orA G.off [] else G.off) = G.off := by split; exact orA_nil' _; rfl
            rw [e3]
            exact HI3.out)
          have hX : (gX G n).ex = G.ex := rfl
          subst hn0
          clear hk0 HI3 HEX HEN
          have HIT := HI5
          have HMT := HM3
          clear hX
          have HFIN : Hid (settleG G n = gX G n) := Lib.hid (by unfold settleG gX goneG; rw [HE.out]; rfl)
          go_wp2
          go_end0
          rw [HFIN.out]
          exact ⟨rfl, ⟨_, _, _, _, _, _, L', HIT.out⟩, HMT.out⟩
        · have hn0' : 0 < n5 := by omega
          clear hn0
          go_wp2_with (first
            | (refine wpList_load_blk rfl _ _ rfl p 2 rfl 90 _ [.bool G.ex, .slice a1 n1 k1, .slice a2 n2 k2] _ HI3.out.blk rfl Tryz.underlying26 rfl stSz ?_)
            | (go_at_call 84; refine (Expire_s HI3.out.on HI3.out.off (show G.on.length ≤ 600 by omega) (show G.off.length ≤ 600 by omega) HRO.out.rd (by have := HOL.out; omega) G.ex).mono ?_; rintro e W4 ⟨f1, g1, i1, f2, g2, i2, rfl, q1, q2, qm⟩; have Q1 := Lib.hid q1; have Q2 := Lib.hid q2; have HI4 := Lib.hid (HI3.out.keep0 qm); have HM4 : Hid (Mod (fun k => k = p ∨ k = b) w W4) := Lib.hid (HM3.out.trans qm fun _ f => f.elim); clear q1 q2 qm)
            | (refine wpList_store_blk rfl _ _ _ rfl p 2 90 _ [.bool G.ex, .slice f1 g1 i1, .slice f2 g2 i2] rfl rfl HI4.out.blk (by simp [gC]) stSz (by simp [Value.oneCell']) ?_; intro W5 HX5 HY5; have HI5 : Hid (GIn W5 p c b (gX G n) f1 g1 i1 f2 g2 i2 L') := Lib.hid (by
                obtain ⟨e1, e2⟩ := HEX.out
                have q1 : RT W4 (.slice f1 g1 i1) (minA G.on (ofA (ks.map (·.1)))) := Q1.out
                have q2 : RT W4 (.slice f2 g2 i2) (if G.ex then orA G.off (andA G.on (ofA (ks.map (·.1)))) else G.off) := Q2.out
                rw [e1] at q1
                rw [e2] at q2
                rw [HGX.out]
                exact ⟨HX5.out, q1.keepT HY5.out (HI4.out.blk.notA (by decide)), q2.keepT HY5.out (HI4.out.blk.notA (by decide)), HI4.out.clk.keep HY5.out (fun e => HNE.out.1 e.symm) fun e => HNE.out.2.1 e.symm⟩); have HM5 : Hid (Mod (fun k => k = p ∨ k = b) w W5) := Lib.hid (HM4.out.trans HY5.out fun k hk => .inl (.inl hk)); have hX : (gX G n).ex = G.ex := rfl))
          have HIT := HI5
          have HMT := HM5
          clear hX
          have HFIN : Hid (settleG G n = gX G n) := Lib.hid (by unfold settleG gX goneG; rw [HE.out]; rfl)
          go_wp2
          go_end0
          rw [HFIN.out]
          exact ⟨rfl, ⟨_, _, _, _, _, _, L', HIT.out⟩, HMT.out⟩
  | true =>
    have HE := Lib.hid hex
    have hS : W1.drew.cell? ⟨p, 2, none⟩ = some (.bool true) ∧ W1.drew.cell? ⟨p, 5, none⟩ = some (.int .i64 G.till) ∧ W1.drew.cell? ⟨p, 1, none⟩ = some (.int .i64 NW) := by
      refine ⟨?_, HI1.out.blk.cell rfl, HI1.out.blk.cell rfl⟩
      have := HI1.out.blk.cell (j := 2) rfl
      rw [show ({ G with now := NW } : Gs).ex = G.ex from rfl, hex] at this
      exact this
    have hgc := HGC.out hex
    clear hex
    refine wp_region_plan [] [(0, 0), (1, 0), (2, 0), (3, 0), (4, 1), (5, 0), (6, 0), (7, 0), (8, 0), (9, 1), (10, 0), (11, 0), (12, 0), (13, 1), (14, 0), (15, 0), (16, 0)] (fun w' : World => w'.cell? ⟨p, 2, none⟩ = some (.bool true) ∧ w'.cell? ⟨p, 5, none⟩ = some (.int .i64 G.till) ∧ w'.cell? ⟨p, 1, none⟩ = some (.int .i64 NW)) (by kernel_rfl) (by kernel_rfl) (fun d v c a w h => by first | (cases d <;> exact h) | exact HP d v c a w h) ?_
    repeat ((first | refine plan_skip rfl rfl ?_ | refine plan_pass2 rfl rfl ?_ | refine plan_pass3 rfl rfl ?_ | (refine plan_take (v := ?_) rfl rfl ?_ ?_; rotate_left; focus (intro w0; go_simp; try with_reducible rfl)) | (refine plan_held (v := ?_) rfl rfl hS ?_ ?_; rotate_left; focus (intro w0 hSw; (try dsimp only at hSw); go_split_ands; go_simp; try with_reducible rfl)) | refine plan_skip1 rfl rfl hS ?_); simp only [List.getElem_toArray, List.getElem_cons_succ, List.getElem_cons_zero, Act.put, List.setIfInBounds_toArray, List.set_cons_zero, List.set_cons_succ])
    try rw [hgc]
    clear hgc
    refine plan_nil ?_
    clear hS
    have hS3 : W1.drew.drew.cell? ⟨p, 6, none⟩ = some (.pointer (some ⟨c, 0, none⟩)) ∧ W1.drew.drew.cell? ⟨p, 1, none⟩ = some (.int .i64 NW) := ⟨HI1.out.blk.cell rfl, HI1.out.blk.cell rfl⟩
    go_wp2_with fail
    refine wp_region_plan [8] [(0, 0), (1, 0), (2, 0), (3, 1), (4, 0), (5, 0), (6, 0), (7, 1), (10, 0), (8, 3), (9, 0)] (fun w' : World => w'.cell? ⟨p, 6, none⟩ = some (.pointer (some ⟨c, 0, none⟩)) ∧ w'.cell? ⟨p, 1, none⟩ = some (.int .i64 NW)) (by kernel_rfl) (by kernel_rfl) (fun d v c a w h => by first | (cases d <;> exact h) | exact HP d v c a w h) ?_
    repeat ((first | refine plan_skip rfl rfl ?_ | refine plan_pass2 rfl rfl ?_ | refine plan_pass3 rfl rfl ?_ | (refine plan_take (v := ?_) rfl rfl ?_ ?_; rotate_left; focus (intro w0; go_simp; try with_reducible rfl)) | (refine plan_held (v := ?_) rfl rfl hS3 ?_ ?_; rotate_left; focus (intro w0 hSw; (try dsimp only at hSw); go_split_ands; go_simp; try with_reducible rfl)) | refine plan_skip1 rfl rfl hS3 ?_); simp only [List.getElem_toArray, List.getElem_cons_succ, List.getElem_cons_zero, Act.put, List.setIfInBounds_toArray, List.set_cons_zero, List.set_cons_succ])
    (refine plan_end rfl rfl rfl fun K hK => ?_; (try simp only [List.getElem_toArray, List.getElem_cons_succ, List.getElem_cons_zero]))
    go_simp
    refine (cPop HSO.out (HI1.out.clk.keep0 ((Mod.refl _ W1).drew.drew)) (by have := HLL.out; omega) NW HN.out).mono ?_
    rintro e W2 ⟨v, ks, L', rfl, hp, hr, hc, hm⟩
    obtain ⟨m, hmk⟩ : ∃ m, m = ks.length := ⟨_, rfl⟩
    have hr' := hr
    unfold RowS at hr'
    obtain ⟨ad, cap, rfl, hnc, hcm, hg⟩ := Row.form hr'
    unfold maxLen at hcm
    rw [← hmk] at hnc ⊢
    have hm4 : m ≤ 400 := by
      have h1 := hp.length_eq
      have h2 := List.length_filter_le (fun p : Ad × Int => decide (p.2 ≤ NW)) L
      unfold dueL at h1
      have := HLL.out
      omega
    have HMK := Lib.hid hmk
    have HP := Lib.hid hp
    have HG : Hid (0 < m → ∃ g, ad = some ⟨g, 0, none⟩ ∧ ∀ j p, ks[j]? = some p → W2.cell? ⟨g, j, none⟩ = some (.string ⟨p.1.kk.toArray⟩)) := Lib.hid fun h0 => by
      obtain ⟨g, e, hf, _, hc⟩ := hg (by rw [← hmk]; exact h0)
      exact ⟨g, e, fun j p hj => hc j _ (by rw [List.getElem?_map, hj]; rfl)⟩
    have HI2 : Hid (GIn W2 p c b { G with now := NW, T := updn G.T NW } a1 n1 k1 a2 n2 k2 L') := Lib.hid ((HI1.out.keep0 ((Mod.refl _ W1).drew.drew)).setC hm hc)
    have HM2 : Hid (Mod (fun k => k = p ∨ k = b) w W2) := Lib.hid (HM1.out.drew.drew.trans hm fun k hk => .inl (.inr hk))
    refine hK _ _ ?_
    clear hK K hp hr hr' hg hc hm hmk hS3 HI1 HM1
    try simp only [List.getElem_toArray, List.getElem_cons_succ, List.getElem_cons_zero, Act.put, List.setIfInBounds_toArray, List.set_cons_zero, List.set_cons_succ]
    repeat ((first | refine plan_skip rfl rfl ?_ | refine plan_pass2 rfl rfl ?_ | refine plan_pass3 rfl rfl ?_ | (refine plan_take (v := ?_) rfl rfl ?_ ?_; rotate_left; focus (intro w0; go_simp; try with_reducible rfl))); simp only [List.getElem_toArray, List.getElem_cons_succ, List.getElem_cons_zero, Act.put, List.setIfInBounds_toArray, List.set_cons_zero, List.set_cons_succ])
    refine plan_nil ?_
    go_wp2_with fail
    go_loopw [5, 46] (fun v5 iv wr => ∃ j : Nat, j ≤ m ∧ iv = .int .i64 (j : Int) ∧ RowA wr (fun q => W2.heap.size ≤ q) v5 ((ks.take j).map (·.1)) ∧ Mod (fun _ => False) W2 wr) (fun _ iv _ => m - (intOf iv).toNat)
    case atStart => exact ⟨0, Nat.zero_le _, rfl, RowA.nil _ _, Mod.refl _ _⟩
    case round =>
      obtain ⟨j, hj, rfl, hrow, hmw⟩ := hrel
      obtain ⟨a5, n5, c5, rfl⟩ := hrow.sl
      have HROW := Lib.hid hrow
      have HMW := Lib.hid hmw
      clear hrow hmw
      by_cases hlt : j < m
      · obtain ⟨q, hq⟩ : ∃ q, ks[j]? = some q := ⟨_, List.getElem?_eq_getElem (by rw [← HMK.out]; exact hlt)⟩
        obtain ⟨g, rfl, hcell⟩ := HG.out (by omega)
        obtain ⟨x, hx⟩ : ∃ x, x = q.1 := ⟨_, rfl⟩
        have hxg : x.good = true := by rw [hx]; exact HH.out.clk.tl.gd q (by have := HP.out.mem_iff.1 (List.mem_of_getElem? hq); unfold dueL at this; exact (List.mem_filter.1 this).1)
        have x0 : wr.cell? ⟨g, j, none⟩ = some (.string x.key) := HMW.out.cell (fun f => f) (by rw [hx]; exact hcell j q hq)
        obtain ⟨lj, hlj⟩ : ∃ lj, lj = (ks.take j).map (·.1) := ⟨_, rfl⟩
        rw [← hlj] at HROW
        have HSN : Hid ((ks.take (j + 1)).map (·.1) = (ks.take j).map (·.1) ++ [x]) := Lib.hid (by rw [List.take_add_one, hq, hx]; simp)
        have HXG := Lib.hid hxg
        have HXS := Lib.hid x.c_sz
        have HXL := Lib.hid x.c_len
        have HX1 := Lib.hid x.c_one
        have HFIT : Hid (0 + x.c.length ≤ (adrC false z16).length) := Lib.hid (by rw [x.c_len]; decide)
        have HLK : Hid (((ks.take j).map (·.1)).length ≤ 400) := Lib.hid (by rw [List.length_map, List.length_take]; omega)
        rw [← hlj] at HSN HLK
        clear hcell hq hx hxg hlj
        go_wp2_with (first
          | (go_at_call 83; refine (Read_ad HXG.out _).mono ?_; rintro e w2 ⟨rfl, hm2⟩; have HMR : Hid (Mod (fun _ => False) W2 w2) := Lib.hid (HMW.out.trans hm2 fun _ f => f.elim); have HNB2 := Lib.hid (Blk.new w2 36 (adrC false z16)); have HRR := Lib.hid (HROW.out.keep0 hm2); clear hm2)
          | (refine wpList_store_blk rfl _ _ _ rfl w2.heap.size 0 36 (adrC false z16) x.c rfl rfl HNB2.out HFIT.out HXS.out HX1.out ?_; intro w3 HB3 HM3; have HB := Lib.hid (splice_all HB3.out (by rw [x.c_len]; rfl)); have HQ3 : Hid (Mod (fun _ => False) w2 w3) := Lib.hid (((Mod.refl _ _).alloc _).trans HM3.out fun x hx => .inr (by omega)); have HR3 := Lib.hid (HRR.out.keep0 HQ3.out); have HMS : Hid (Mod (fun _ => False) W2 w3) := Lib.hid (HMR.out.trans HQ3.out fun _ f => f.elim))
          | (refine wpList_load_blk rfl _ _ rfl w2.heap.size 0 rfl 36 x.c x.c _ HB.out (List.take_of_length_le (Nat.le_refl _)) Tryz.underlying36 rfl HXS.out ?_)
          | (refine wpList_buildSlice1 Tryz.elA rfl _ rfl x.c rfl HXL.out (by decide) (by decide) ?_)
          | (at_builtin; refine wpList_append_one Tryz.elA rfl (.tmp 55) (.tmp 57) rfl x.c.toArray (fun q => W2.heap.size ≤ q) (.slice a5 n5 c5) lj.length (cellsA lj) (HR3.out.alloc _) _ (allocNew w3 _) rfl rfl (by simpa using HXL.out) (by simpa using HX1.out) (by have := HLK.out; omega) (by have := HLK.out; unfold maxLen; omega) ?_; intro v9 w9 h9 h9m; have H9 := Lib.hid h9; have H9M := Lib.hid h9m; clear h9 h9m))
        go_roundw
        case rel =>
          refine ⟨j + 1, by omega, by go_num, ?_, (HMS.out.alloc _).trans H9M.out fun q hq => .inr (HR3.out.2 q hq)⟩
          rw [HSN.out]
          unfold RowA
          rw [cellsA_app, show cellsA [x] = x.c by simp [cellsA], List.length_append]
          have hsz := HMS.out.size
          exact H9.out.mono fun q hq => hq.elim (fun h => h) fun h => by simp at h; omega
        case measure => simp [intOf]; omega
      · obtain rfl : j = m := by omega
        have HOUT : Hid ((ks.take j).map (·.1) = ks.map (·.1)) := Lib.hid (by rw [HMK.out, List.take_length])
        have HRO : Hid (RowA wr (fun q => W2.heap.size ≤ q) (.slice a5 n5 c5) (ks.map (·.1))) := Lib.hid (by have := HROW.out; rwa [HOUT.out] at this)
        have hn5 : n5 = j := by have := HRO.out.len.1; rw [this, List.length_map]; exact HMK.out.symm
        subst hn5
        have HI3 := Lib.hid (HI2.out.keep0 HMW.out)
        have HM3 : Hid (Mod (fun k => k = p ∨ k = b) w wr) := Lib.hid (HM2.out.trans HMW.out fun _ f => f.elim)
        have HOL : Hid ((ks.map (·.1)).length ≤ 400) := Lib.hid (by rw [List.length_map, ← HMK.out]; exact hm4)
        have HEX := Lib.hid (exp_on HH.out.clk.tl HP.out OK.out.on)
        have HEN := Lib.hid (exp_none HH.out.clk.tl HP.out)
        clear HROW HOUT HI2 HM2 HG
        by_cases hn0 : n5 = 0
        · have hk0 : ks = [] := List.eq_nil_of_length_eq_zero (by rw [← HMK.out]; exact hn0)
          have HI5 : Hid (GIn wr p c b (gX G n) a1 n1 k1 a2 n2 k2 L') := Lib.hid (by
            obtain ⟨e1, e2⟩ := HEN.out hk0 G.on
            rw [HGX.out, e1, e2]
            have e3 : (if G.ex then orA G.off [] else G.off) = G.off := by split; exact orA_nil' _; rfl
            rw [e3]
            exact HI3.out)
          have hX : (gX G n).ex = G.ex := rfl
          subst hn0
          clear hk0 HI3 HEX HEN
          have HIT := HI5
          have HMT := HM3
          clear hX
          cases gb with
          | false =>
            have HFIN : Hid (settleG G n = gX G n) := Lib.hid (by have hg := HGB.out; unfold settleG gX; rw [← hg, HE.out]; rfl)
            go_wp2
            go_end0
            rw [HFIN.out]
            exact ⟨rfl, ⟨_, _, _, _, _, _, L', HIT.out⟩, HMT.out⟩
          | true =>
            have HFIN : Hid (settleG G n = { gX G n with ex := false, off := [] }) := Lib.hid (by have hg := HGB.out; unfold settleG gX; rw [← hg]; simp)
            have hon5 : (gX G n).on.length ≤ 400 := Nat.le_trans (List.length_filter_le _ _) hlo
            have hof5 : (gX G n).off.length ≤ 2000 := by
              show (if G.ex then orA G.off (G.on.filter fun a => dueB G.T (nowG G n) a) else G.off).length ≤ 2000
              have h1 := orA_len G.off (G.on.filter fun a => dueB G.T (nowG G n) a)
              have h2 := List.length_filter_le (fun a => dueB G.T (nowG G n) a) G.on
              split <;> omega
            go_wp2_with (first
              | (refine wpList_load_blk rfl _ _ rfl p 2 rfl 90 _ [.bool (gX G n).ex, .slice a1 n1 k1, .slice a2 n2 k2] _ HIT.out.blk rfl Tryz.underlying26 rfl stSz ?_)
              | (go_at_call 85; refine (Turn_s (gX G n).ex HIT.out.on (by omega)).mono ?_; rintro e W6 ⟨r1, s1, t1, r2, s2, t2, rfl, q1, q2, qm⟩; have U1 := Lib.hid q1; have U2 := Lib.hid q2; have HI6 := Lib.hid (HIT.out.keep0 qm); have HM6 : Hid (Mod (fun k => k = p ∨ k = b) w W6) := Lib.hid (HMT.out.trans qm fun _ f => f.elim); clear q1 q2 qm)
              | (refine wpList_store_blk rfl _ _ _ rfl p 2 90 _ [.bool false, .slice r1 s1 t1, .slice r2 s2 t2] rfl rfl HI6.out.blk (by simp [gC]) stSz (by simp [Value.oneCell']) ?_; intro W7 HX7 HY7))
            go_end0
            refine ⟨rfl, ⟨r1, s1, t1, r2, s2, t2, L', ?_⟩, HM6.out.trans HY7.out fun k hk => .inl (.inl hk)⟩
            rw [HFIN.out]
            exact ⟨HX7.out, U1.out.keepT HY7.out (HI6.out.blk.notA (by decide)), U2.out.keepT HY7.out (HI6.out.blk.notA (by decide)), HI6.out.clk.keep HY7.out (fun e => HNE.out.1 e.symm) fun e => HNE.out.2.1 e.symm⟩
        · have hn0' : 0 < n5 := by omega
          clear hn0
          cases gb with
          | false =>
            go_wp2_with (first
              | (refine wpList_load_blk rfl _ _ rfl p 2 rfl 90 _ [.bool G.ex, .slice a1 n1 k1, .slice a2 n2 k2] _ HI3.out.blk rfl Tryz.underlying26 rfl stSz ?_)
              | (go_at_call 84; refine (Expire_s HI3.out.on HI3.out.off (show G.on.length ≤ 600 by omega) (show G.off.length ≤ 600 by omega) HRO.out.rd (by have := HOL.out; omega) G.ex).mono ?_; rintro e W4 ⟨f1, g1, i1, f2, g2, i2, rfl, q1, q2, qm⟩; have Q1 := Lib.hid q1; have Q2 := Lib.hid q2; have HI4 := Lib.hid (HI3.out.keep0 qm); have HM4 : Hid (Mod (fun k => k = p ∨ k = b) w W4) := Lib.hid (HM3.out.trans qm fun _ f => f.elim); clear q1 q2 qm)
              | (refine wpList_store_blk rfl _ _ _ rfl p 2 90 _ [.bool G.ex, .slice f1 g1 i1, .slice f2 g2 i2] rfl rfl HI4.out.blk (by simp [gC]) stSz (by simp [Value.oneCell']) ?_; intro W5 HX5 HY5; have HI5 : Hid (GIn W5 p c b (gX G n) f1 g1 i1 f2 g2 i2 L') := Lib.hid (by
                  obtain ⟨e1, e2⟩ := HEX.out
                  have q1 : RT W4 (.slice f1 g1 i1) (minA G.on (ofA (ks.map (·.1)))) := Q1.out
                  have q2 : RT W4 (.slice f2 g2 i2) (if G.ex then orA G.off (andA G.on (ofA (ks.map (·.1)))) else G.off) := Q2.out
                  rw [e1] at q1
                  rw [e2] at q2
                  rw [HGX.out]
                  exact ⟨HX5.out, q1.keepT HY5.out (HI4.out.blk.notA (by decide)), q2.keepT HY5.out (HI4.out.blk.notA (by decide)), HI4.out.clk.keep HY5.out (fun e => HNE.out.1 e.symm) fun e => HNE.out.2.1 e.symm⟩); have HM5 : Hid (Mod (fun k => k = p ∨ k = b) w W5) := Lib.hid (HM4.out.trans HY5.out fun k hk => .inl (.inl hk)); have hX : (gX G n).ex = G.ex := rfl))
            have HFIN : Hid (settleG G n = gX G n) := Lib.hid (by have hg := HGB.out; unfold settleG gX; rw [← hg, HE.out]; rfl)
            go_end0
            rw [HFIN.out]
            exact ⟨rfl, ⟨_, _, _, _, _, _, L', HI5.out⟩, HM5.out⟩
          | true =>
            have HFIN : Hid (settleG G n = { gX G n with ex := false, off := [] }) := Lib.hid (by have hg := HGB.out; unfold settleG gX; rw [← hg]; simp)
            have hon5 : (gX G n).on.length ≤ 400 := Nat.le_trans (List.length_filter_le _ _) hlo
            have hof5 : (gX G n).off.length ≤ 2000 := by
              show (if G.ex then orA G.off (G.on.filter fun a => dueB G.T (nowG G n) a) else G.off).length ≤ 2000
              have h1 := orA_len G.off (G.on.filter fun a => dueB G.T (nowG G n) a)
              have h2 := List.length_filter_le (fun a => dueB G.T (nowG G n) a) G.on
              split <;> omega
            go_wp2_with (first
              | (refine wpList_load_blk rfl _ _ rfl p 2 rfl 90 _ [.bool G.ex, .slice a1 n1 k1, .slice a2 n2 k2] _ HI3.out.blk rfl Tryz.underlying26 rfl stSz ?_)
              | (go_at_call 84; refine (Expire_s HI3.out.on HI3.out.off (show G.on.length ≤ 600 by omega) (show G.off.length ≤ 600 by omega) HRO.out.rd (by have := HOL.out; omega) G.ex).mono ?_; rintro e W4 ⟨f1, g1, i1, f2, g2, i2, rfl, q1, q2, qm⟩; have Q1 := Lib.hid q1; have Q2 := Lib.hid q2; have HI4 := Lib.hid (HI3.out.keep0 qm); have HM4 : Hid (Mod (fun k => k = p ∨ k = b) w W4) := Lib.hid (HM3.out.trans qm fun _ f => f.elim); clear q1 q2 qm)
              | (refine wpList_store_blk rfl _ _ _ rfl p 2 90 _ [.bool G.ex, .slice f1 g1 i1, .slice f2 g2 i2] rfl rfl HI4.out.blk (by simp [gC]) stSz (by simp [Value.oneCell']) ?_; intro W5 HX5 HY5; have HI5 : Hid (GIn W5 p c b (gX G n) f1 g1 i1 f2 g2 i2 L') := Lib.hid (by
                  obtain ⟨e1, e2⟩ := HEX.out
                  have q1 : RT W4 (.slice f1 g1 i1) (minA G.on (ofA (ks.map (·.1)))) := Q1.out
                  have q2 : RT W4 (.slice f2 g2 i2) (if G.ex then orA G.off (andA G.on (ofA (ks.map (·.1)))) else G.off) := Q2.out
                  rw [e1] at q1
                  rw [e2] at q2
                  rw [HGX.out]
                  exact ⟨HX5.out, q1.keepT HY5.out (HI4.out.blk.notA (by decide)), q2.keepT HY5.out (HI4.out.blk.notA (by decide)), HI4.out.clk.keep HY5.out (fun e => HNE.out.1 e.symm) fun e => HNE.out.2.1 e.symm⟩); have HM5 : Hid (Mod (fun k => k = p ∨ k = b) w W5) := Lib.hid (HM4.out.trans HY5.out fun k hk => .inl (.inl hk)); have hX : (gX G n).ex = G.ex := rfl)
              | (refine wpList_load_blk rfl _ _ rfl p 2 rfl 90 _ [.bool (gX G n).ex, .slice f1 g1 i1, .slice f2 g2 i2] _ HI5.out.blk rfl Tryz.underlying26 rfl stSz ?_)
              | (go_at_call 85; refine (Turn_s (gX G n).ex HI5.out.on (by omega)).mono ?_; rintro e W6 ⟨r1, s1, t1, r2, s2, t2, rfl, q1, q2, qm⟩; have U1 := Lib.hid q1; have U2 := Lib.hid q2; have HI6 := Lib.hid (HI5.out.keep0 qm); have HM6 : Hid (Mod (fun k => k = p ∨ k = b) w W6) := Lib.hid (HM5.out.trans qm fun _ f => f.elim); clear q1 q2 qm)
              | (refine wpList_store_blk rfl _ _ _ rfl p 2 90 _ [.bool false, .slice r1 s1 t1, .slice r2 s2 t2] rfl rfl HI6.out.blk (by simp [gC]) stSz (by simp [Value.oneCell']) ?_; intro W7 HX7 HY7))
            go_end0
            refine ⟨rfl, ⟨r1, s1, t1, r2, s2, t2, L', ?_⟩, HM6.out.trans HY7.out fun k hk => .inl (.inl hk)⟩
            rw [HFIN.out]
            exact ⟨HX7.out, U1.out.keepT HY7.out (HI6.out.blk.notA (by decide)), U2.out.keepT HY7.out (HI6.out.blk.notA (by decide)), HI6.out.clk.keep HY7.out (fun e => HNE.out.1 e.symm) fun e => HNE.out.2.1 e.symm⟩
end Go.Proofs.YtcccdlmngddalaaGreat
