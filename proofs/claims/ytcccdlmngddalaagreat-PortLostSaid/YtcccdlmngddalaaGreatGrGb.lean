/- group.have, clean: contracts. -/
import Derived.Test.YtcccdlmngddalaaGreatGrGa
set_option linter.unusedVariables false
set_option linter.unusedSimpArgs false
namespace Go.Proofs.YtcccdlmngddalaaGreat
open Go.RowKit Go.Sort
def setT (T : Ad → Option Int) (l : List Ad) (t : Int) (a : Ad) : Option Int := if a ∈ l then some t else T a
theorem setT_take {T : Ad → Option Int} {l : List Ad} {t : Int} {j : Nat} {x : Ad} (hx : l[j]? = some x) : setT T (l.take (j + 1)) t = upd (setT T (l.take j) t) x (some t) := by
  funext a
  unfold setT upd
  rw [List.take_add_one, hx]
  simp only [Option.toList_some, List.mem_append, List.mem_singleton]
  by_cases h : a = x
  · simp [h]
  · simp [h]
def clnT (T : Ad → Option Int) (ks : List (Ad × Int)) (on : List Ad) (a : Ad) : Option Int := if a ∈ ks.map (·.1) ∧ a ∉ on then none else T a
def onT (T : Ad → Option Int) (on : List Ad) (a : Ad) : Option Int := if a ∈ on then T a else none
theorem clnT_all {T : Ad → Option Int} {L ks : List (Ad × Int)} (h : TL L T) (hp : ks.Perm L) (on : List Ad) : clnT T ks on = onT T on := by
  funext a
  unfold clnT onT
  by_cases ho : a ∈ on
  · simp [ho]
  · by_cases hk : a ∈ ks.map (·.1)
    · simp [ho, hk]
    · rw [if_neg (fun h => hk h.1), if_neg ho, h.look]
      exact aget_none fun hx => hk ((hp.map _).mem_iff.2 hx)
theorem clnT_take {T : Ad → Option Int} {ks : List (Ad × Int)} {on : List Ad} {j : Nat} {p : Ad × Int} (hp : ks[j]? = some p) : clnT T (ks.take (j + 1)) on = if p.1 ∈ on then clnT T (ks.take j) on else upd (clnT T (ks.take j) on) p.1 none := by
  have e : ∀ a, a ∈ (ks.take (j + 1)).map (·.1) ↔ a ∈ (ks.take j).map (·.1) ∨ a = p.1 := fun a => by
    rw [List.take_add_one, hp]
    simp
  by_cases ho : p.1 ∈ on
  · rw [if_pos ho]
    funext a
    unfold clnT
    simp only [e]
    by_cases h : a = p.1
    · subst h; simp [ho]
    · simp [h]
  · rw [if_neg ho]
    funext a
    unfold clnT upd
    simp only [e]
    by_cases h : a = p.1
    · subst h; simp [ho]
    · simp [h]
section
variable {w : World} {p c b : Nat} {G : Gs} {a1 : Option Addr} {n1 k1 : Nat} {a2 : Option Addr} {n2 k2 : Nat} {L : List (Ad × Int)} (h : GIn w p c b G a1 n1 k1 a2 n2 k2 L)
include h
theorem GIn.setC {w' : World} {T : Ad → Option Int} {L' : List (Ad × Int)} (hm : Mod (fun k => k = b) w w') (hc : ClkAt w' c b T L') : GIn w' p c b { G with T := T } a1 n1 k1 a2 n2 k2 L' := by
  have hN : NotA w (fun k => k = b) := fun k hk cur z e => by
    subst hk
    obtain ⟨es, ck, hb, _⟩ := h.clk.mp
    rw [hb] at e
    cases e
  exact ⟨h.blk.keep hm fun e => h.ne.2.1 e, h.on.keepT hm hN, h.off.keepT hm hN, hc⟩
set_option maxRecDepth 100000 in
set_option maxHeartbeats 1000000 in
theorem ghave {v : Value} {l : List Ad} (t : Int) (hl : RT w v l) (hg : ∀ a ∈ l, a.good = true) (hn : l.length ≤ 2000) : Calls Tryz.prog 48 #[.pointer (some ⟨p, 0, none⟩), v, .int .i64 t] w fun e w' => e = .returned (.tuple #[]) ∧ (∃ L', GIn w' p c b { G with T := setT G.T l t } a1 n1 k1 a2 n2 k2 L') ∧ Mod (fun k => k = b) w w' := by
  obtain ⟨n, hnl⟩ : ∃ n, n = l.length := ⟨_, rfl⟩
  have hrd := hl.rd
  obtain ⟨ad, cap, rfl, hnc, hcm, _⟩ := hrd
  unfold maxLen at hcm
  rw [← hnl] at hnc hn hl ⊢
  have HN := Lib.hid hnl
  have HL := Lib.hid hl
  have HH := Lib.hid h
  have HGD := Lib.hid hg
  have HNA : Hid (NotA w (fun k => k = b)) := Lib.hid fun k hk cur z e => by
    subst hk
    obtain ⟨es, ck, hb, _⟩ := h.clk.mp
    rw [hb] at e
    cases e
  have hbl := h.clk.mp.lt
  have hpl := h.blk.lt
  clear hnl hl h hg
  go_enter Tryz.func48, Tryz.ntmps48
  go_wp2_with fail
  go_loopw [10] (fun iv wr => ∃ (j : Nat) (L' : List (Ad × Int)), j ≤ n ∧ iv = .int .i64 (j : Int) ∧ GIn wr p c b { G with T := setT G.T (l.take j) t } a1 n1 k1 a2 n2 k2 L' ∧ Mod (fun k => k = b) w wr) (fun iv _ => n - (intOf iv).toNat)
  case atStart => exact ⟨0, L, Nat.zero_le _, rfl, by have := HH.out; exact ⟨this.blk, this.on, this.off, ⟨this.clk.blk, this.clk.mp, this.clk.tl.nd, this.clk.tl.gd, this.clk.tl.look⟩⟩, Mod.refl _ _⟩
  case round =>
    obtain ⟨j, L', hj, rfl, hI, hm⟩ := hrel
    have HI := Lib.hid hI
    have HM := Lib.hid hm
    clear hI hm
    by_cases hlt : j < n
    · obtain ⟨x, hx⟩ : ∃ x, l[j]? = some x := ⟨_, List.getElem?_eq_getElem (by rw [← HN.out]; exact hlt)⟩
      have hrow : RowA wr (fun _ => True) (.slice ad n cap) l := HL.out.keepT HM.out HNA.out
      obtain ⟨g, o, cap1, e1, q1, q2, hxa⟩ := hrow.rd.at (j := j) (by rw [← HN.out]; exact hlt)
      injection e1 with e1 e1a e1b
      subst e1
      have HXR := Lib.hid (hxa j x hx)
      have HXG := Lib.hid hx
      have HXS := Lib.hid x.c_sz
      have HX1 := Lib.hid x.c_one
      have HGX := Lib.hid (HGD.out x (List.mem_of_getElem? hx))
      have HNB0 := Lib.hid (Blk.new wr 36 (adrC false z16))
      have HFIT : Hid (0 + x.c.length ≤ (adrC false z16).length) := Lib.hid (by rw [x.c_len]; decide)
      have HBS : Hid (b < wr.heap.size) := Lib.hid HI.out.clk.mp.lt
      clear e1a e1b q1 q2 hxa hx hrow
      go_wp2_with (first
        | (refine wpList_load_midG rfl _ _ rfl g (o + j * 17) rfl x.c _ HXR.out Tryz.underlying36 rfl HXS.out ?_)
        | (refine wpList_store_blk rfl _ _ _ rfl wr.heap.size 0 36 (adrC false z16) x.c rfl rfl HNB0.out HFIT.out HXS.out HX1.out ?_; intro w3 HB3 HM3; have HB := Lib.hid (splice_all HB3.out (by rw [x.c_len]; rfl)); have HM4 : Hid (Mod (fun _ => False) wr w3) := Lib.hid (((Mod.refl _ _).alloc _).trans HM3.out fun x hx => .inr (by omega)); have HI3 := Lib.hid (HI.out.keep0 HM4.out)))
      have hS : w3.drew.cell? ⟨p, 6, none⟩ = some (.pointer (some ⟨c, 0, none⟩)) ∧ Blk w3.drew wr.heap.size 36 x.c := ⟨HI3.out.blk.cell rfl, HB.out⟩
      refine wp_region_plan [] [(0, 0), (1, 0), (2, 0), (3, 1), (4, 1), (6, 0), (5, 2), (7, 2)] (fun w' : World => w'.cell? ⟨p, 6, none⟩ = some (.pointer (some ⟨c, 0, none⟩)) ∧ Blk w' wr.heap.size 36 x.c) (by kernel_rfl) (by kernel_rfl) (fun d v c a w h => by first | (cases d <;> exact h) | exact HP d v c a w h) ?_
      repeat ((first | refine plan_skip rfl rfl ?_ | refine plan_pass2 rfl rfl ?_ | refine plan_pass3 rfl rfl ?_ | (refine plan_take (v := ?_) rfl rfl ?_ ?_; rotate_left; focus (intro w0; go_simp; try with_reducible rfl)) | (refine plan_held (v := ?_) rfl rfl hS ?_ ?_; rotate_left; focus (intro w0 hSw; (try dsimp only at hSw); go_split_ands; go_simp; try with_reducible rfl)) | refine plan_skip1 rfl rfl hS ?_); simp only [nA, nB, nC, Act.put, nD, nE, nF])
      (refine plan_held (v := .agg x.c.toArray) rfl rfl hS (fun w0 h0 => exec_load_blk _ _ rfl wr.heap.size 0 rfl 36 x.c x.c _ w0 h0.2 (List.take_of_length_le (Nat.le_refl _)) Tryz.underlying36 rfl HXS.out) ?_; try simp only [nA, nB, nC, Act.put, nD, nE, nF])
      repeat ((first | refine plan_skip rfl rfl ?_ | refine plan_pass2 rfl rfl ?_ | refine plan_pass3 rfl rfl ?_ | (refine plan_take (v := ?_) rfl rfl ?_ ?_; rotate_left; focus (intro w0; go_simp; try with_reducible rfl)) | (refine plan_held (v := ?_) rfl rfl hS ?_ ?_; rotate_left; focus (intro w0 hSw; (try dsimp only at hSw); go_split_ands; go_simp; try with_reducible rfl)) | refine plan_skip1 rfl rfl hS ?_); simp only [nA, nB, nC, Act.put, nD, nE, nF])
      (refine plan_do rfl rfl fun K hK => ?_; try simp only [nA, nB, nC])
      go_simp
      refine (key_ad x _).mono ?_
      rintro e W1 ⟨rfl, hm1⟩
      have HI4 : Hid (GIn W1 p c b { G with T := setT G.T (l.take j) t } a1 n1 k1 a2 n2 k2 L') := Lib.hid (HI3.out.keep0 ((Mod.refl _ w3).drew.trans hm1 fun _ f => f.elim))
      have HM5 : Hid (Mod (fun k => k = b) w W1) := Lib.hid (HM.out.trans (HM4.out.drew.trans hm1 fun _ f => f.elim) fun _ f => f.elim)
      have hs1 := hm1.cell (fun f => f) hS.1
      have hs2 := Blk.keep hS.2 hm1 fun f => f
      refine hK _ _ ⟨hs1, hs2⟩ ?_
      clear hK K hm1 hS
      try simp only [nA, nB, nC, Act.put, nD, nE, nF]
      (refine plan_do rfl rfl fun K hK => ?_; try simp only [nA, nB, nC])
      go_simp
      refine (cSet HI4.out.clk HGX.out t).mono ?_
      rintro e W2 ⟨⟨y, rfl⟩, hc2, hm2⟩
      have HI5 := Lib.hid (HI4.out.setC hm2 hc2)
      have HM6 : Hid (Mod (fun k => k = b) w W2) := Lib.hid (HM5.out.trans hm2 fun k hk => .inl hk)
      refine hK _ _ ⟨hm2.cell (fun e => HI4.out.ne.2.1 e) hs1, Blk.keep hs2 hm2 fun e => by have := HBS.out; omega⟩ ?_
      clear hK K hc2 hm2 hs1 hs2
      try simp only [nA, nB, nC, Act.put, nD, nE, nF]
      refine plan_nil ?_
      go_wp2
      go_roundw
      case rel => exact ⟨j + 1, aput L' x t, by omega, by go_num, by rw [setT_take HXG.out]; exact HI5.out, HM6.out⟩
      case measure => simp [intOf]; omega
    · obtain rfl : j = n := by omega
      have HT : Hid (l.take j = l) := Lib.hid (by rw [HN.out, List.take_length])
      go_wp2
      go_end0
      exact ⟨rfl, ⟨L', by have := HI.out; rwa [HT.out] at this⟩, HM.out⟩
set_option maxRecDepth 100000 in
set_option maxHeartbeats 1000000 in
theorem gclean (hon : AS G.on) (hlo : G.on.length ≤ 2000) (hL : L.length ≤ 3000) : Calls Tryz.prog 50 #[.pointer (some ⟨p, 0, none⟩)] w fun e w' => e = .returned (.tuple #[]) ∧ (∃ L', GIn w' p c b { G with T := onT G.T G.on } a1 n1 k1 a2 n2 k2 L') ∧ Mod (fun k => k = b) w w' := by
  have c6 : w.cell? ⟨p, 6, none⟩ = some (.pointer (some ⟨c, 0, none⟩)) := h.blk.cell rfl
  have HK := Lib.hid (cKeys h.clk hL)
  have HH := Lib.hid h
  have HON := Lib.hid hon
  have hbl := h.clk.mp.lt
  have hpl := h.blk.lt
  clear h hon
  go_enter Tryz.func50, Tryz.ntmps50
  go_wp2_with fail
  refine HK.out.mono ?_
  rintro e w1 ⟨v, ks, rfl, hp, hr, hm⟩
  obtain ⟨n, hn⟩ : ∃ n, n = ks.length := ⟨_, rfl⟩
  have hn3 : n ≤ 3000 := by rw [hn, hp.length_eq]; exact hL
  have hr' := hr
  unfold RowS at hr'
  obtain ⟨ad, cap, rfl, hnc, hcm, hg⟩ := Row.form hr'
  unfold maxLen at hcm
  rw [← hn] at hnc ⊢
  have HN := Lib.hid hn
  have HP := Lib.hid hp
  have HM := Lib.hid hm
  have H1 := Lib.hid (HH.out.keep0 hm)
  have HG : Hid (0 < n → ∃ g, ad = some ⟨g, 0, none⟩ ∧ w.heap.size ≤ g ∧ ∀ j p, ks[j]? = some p → w1.cell? ⟨g, j, none⟩ = some (.string ⟨p.1.kk.toArray⟩)) := Lib.hid fun h0 => by
    obtain ⟨g, e, hf, _, hc⟩ := hg (by rw [← hn]; exact h0)
    exact ⟨g, e, hf, fun j p hj => hc j _ (by rw [List.getElem?_map, hj]; rfl)⟩
  clear hn hp hr hm hr' hg HK
  go_wp2_with fail
  go_loopw [12] (fun iv wr => ∃ (j : Nat) (L' : List (Ad × Int)), j ≤ n ∧ iv = .int .i64 (j : Int) ∧ GIn wr p c b { G with T := clnT G.T (ks.take j) G.on } a1 n1 k1 a2 n2 k2 L' ∧ Mod (fun k => k = b) w1 wr) (fun iv _ => n - (intOf iv).toNat)
  case atStart => exact ⟨0, L, Nat.zero_le _, rfl, by
    have := H1.out
    have e : clnT G.T (ks.take 0) G.on = G.T := by funext a; simp [clnT]
    rw [e]
    exact this, Mod.refl _ _⟩
  case round =>
    obtain ⟨j, L', hj, rfl, hI, hm⟩ := hrel
    have HI := Lib.hid hI
    have HMW := Lib.hid hm
    clear hI hm
    by_cases hlt : j < n
    · obtain ⟨q, hq⟩ : ∃ q, ks[j]? = some q := ⟨_, List.getElem?_eq_getElem (by rw [← HN.out]; exact hlt)⟩
      obtain ⟨g, rfl, hgw, hcell⟩ := HG.out (by omega)
      obtain ⟨x, hx⟩ : ∃ x, x = q.1 := ⟨_, rfl⟩
      have hxg : x.good = true := by rw [hx]; exact HH.out.clk.tl.gd q (HP.out.mem_iff.1 (List.mem_of_getElem? hq))
      have x0 : wr.cell? ⟨g, j, none⟩ = some (.string x.key) := HMW.out.cell (fun e => by have h2 : g = b := e; omega) (by rw [hx]; exact hcell j q hq)
      have HQ := Lib.hid hq
      have HX := Lib.hid hx
      have HXG := Lib.hid hxg
      have HXS := Lib.hid x.c_sz
      have HX1 := Lib.hid x.c_one
      have HNB0 := Lib.hid (Blk.new wr 36 (adrC false z16))
      have HFIT : Hid (0 + x.c.length ≤ (adrC false z16).length) := Lib.hid (by rw [x.c_len]; decide)
      have HBS : Hid (b < wr.heap.size) := Lib.hid HI.out.clk.mp.lt
      clear hcell hq hx hxg
      go_wp2_with (first
        | (go_at_call 83; refine (Read_ad HXG.out _).mono ?_; rintro e w2 ⟨rfl, hm2⟩; have HM2 := Lib.hid hm2; have HNB2 := Lib.hid (Blk.new w2 36 (adrC false z16)); have HI2 := Lib.hid (HI.out.keep0 hm2); clear hm2)
        | (refine wpList_store_blk rfl _ _ _ rfl w2.heap.size 0 36 (adrC false z16) x.c rfl rfl HNB2.out HFIT.out HXS.out HX1.out ?_; intro w3 HB3 HM3; have HB := Lib.hid (splice_all HB3.out (by rw [x.c_len]; rfl)); have HM4 : Hid (Mod (fun _ => False) w2 w3) := Lib.hid (((Mod.refl _ _).alloc _).trans HM3.out fun x hx => .inr (by omega)); have HI3 := Lib.hid (HI2.out.keep0 HM4.out)))
      have hS : w3.drew.cell? ⟨p, 3, none⟩ = some (.slice a1 n1 k1) ∧ Blk w3.drew w2.heap.size 36 x.c := ⟨HI3.out.blk.cell rfl, HB.out⟩
      refine wp_region_plan [6] [(0, 0), (1, 0), (2, 0), (3, 0), (4, 1), (5, 1), (6, 3), (7, 0)] (fun w' : World => w'.cell? ⟨p, 3, none⟩ = some (.slice a1 n1 k1) ∧ Blk w' w2.heap.size 36 x.c) (by kernel_rfl) (by kernel_rfl) (fun d v c a w h => by first | (cases d <;> exact h) | exact HP d v c a w h) ?_
      repeat ((first | refine plan_skip rfl rfl ?_ | refine plan_pass2 rfl rfl ?_ | refine plan_pass3 rfl rfl ?_ | (refine plan_take (v := ?_) rfl rfl ?_ ?_; rotate_left; focus (intro w0; go_simp; try with_reducible rfl)) | (refine plan_held (v := ?_) rfl rfl hS ?_ ?_; rotate_left; focus (intro w0 hSw; (try dsimp only at hSw); go_split_ands; go_simp; try with_reducible rfl)) | refine plan_skip1 rfl rfl hS ?_); simp only [nA, nB, nC, Act.put, nD, nE, nF])
      (refine plan_held (v := .agg x.c.toArray) rfl rfl hS (fun w0 h0 => exec_load_blk _ _ rfl w2.heap.size 0 rfl 36 x.c x.c _ w0 h0.2 (List.take_of_length_le (Nat.le_refl _)) Tryz.underlying36 rfl HXS.out) ?_; try simp only [nA, nB, nC, Act.put, nD, nE, nF])
      (refine plan_end rfl rfl rfl fun K hK => ?_; (try simp only [nA, nB, nC]))
      go_simp
      refine (Has_any x (w := w3.drew) HI3.out.on.rd HON.out.1 (by have := hlo; show G.on.length ≤ 5000; omega)).mono ?_
      rintro e W1 ⟨rfl, hm1⟩
      have hm13 : Mod (fun _ => False) w3 W1 := (Mod.refl _ w3).drew.trans hm1 fun _ f => f.elim
      have HI4 := Lib.hid (HI3.out.keep0 hm13)
      have HM5 : Hid (Mod (fun k => k = b) w1 W1) := Lib.hid (((HMW.out.trans HM2.out fun _ f => f.elim).trans HM4.out fun _ f => f.elim).trans hm13 fun _ f => f.elim)
      refine hK _ _ ?_
      clear hK K hm1 hm13 hS
      try simp only [nA, nB, nC, Act.put, nD, nE, nF]
      have HCT := Lib.hid (clnT_take (T := G.T) (on := G.on) HQ.out)
      by_cases ho : x ∈ G.on
      · have hd : decide (x ∈ G.on) = true := decide_eq_true ho
        have HO := Lib.hid ho
        rw [show (decide (x ∈ ({ G with T := clnT G.T (ks.take j) G.on } : Gs).on)) = true from hd]
        clear hd ho
        repeat ((first | refine plan_skip rfl rfl ?_ | refine plan_pass2 rfl rfl ?_ | refine plan_pass3 rfl rfl ?_ | (refine plan_take (v := ?_) rfl rfl ?_ ?_; rotate_left; focus (intro w0; go_simp; try with_reducible rfl))); simp only [nA, nB, nC, Act.put, nD, nE, nF])
        refine plan_nil ?_
        go_wp2
        go_roundw
        case rel => exact ⟨j + 1, L', by omega, by go_num, by rw [HCT.out, ← HX.out, if_pos HO.out]; exact HI4.out, HM5.out⟩
        case measure => simp [intOf]; omega
      · have hd : decide (x ∈ G.on) = false := decide_eq_false ho
        have HO := Lib.hid ho
        rw [show (decide (x ∈ ({ G with T := clnT G.T (ks.take j) G.on } : Gs).on)) = false from hd]
        clear hd ho
        have c7 : W1.cell? ⟨p, 6, none⟩ = some (.pointer (some ⟨c, 0, none⟩)) := HI4.out.blk.cell rfl
        repeat ((first | refine plan_skip rfl rfl ?_ | refine plan_pass2 rfl rfl ?_ | refine plan_pass3 rfl rfl ?_ | (refine plan_take (v := ?_) rfl rfl ?_ ?_; rotate_left; focus (intro w0; go_simp; try with_reducible rfl))); simp only [nA, nB, nC, Act.put, nD, nE, nF])
        refine plan_nil ?_
        go_wp2_with (go_at_call 101; refine (cCut HI4.out.clk HXG.out).mono ?_; rintro e W2 ⟨⟨y, rfl⟩, hc2, hm2⟩; have HI5 := Lib.hid (HI4.out.setC hm2 hc2); have HM6 : Hid (Mod (fun k => k = b) w1 W2) := Lib.hid (HM5.out.trans hm2 fun k hk => .inl hk); clear hc2 hm2)
        go_roundw
        case rel => exact ⟨j + 1, _, by omega, by go_num, by rw [HCT.out, ← HX.out, if_neg HO.out]; exact HI5.out, HM6.out⟩
        case measure => simp [intOf]; omega
    · obtain rfl : j = n := by omega
      have HT : Hid (clnT G.T (ks.take j) G.on = onT G.T G.on) := Lib.hid (by rw [HN.out, List.take_length]; exact clnT_all HH.out.clk.tl HP.out _)
      go_wp2
      go_end0
      exact ⟨rfl, ⟨L', by have := HI.out; rwa [HT.out] at this⟩, (HM.out.mono fun _ f => f.elim).trans HMW.out fun k hk => .inl hk⟩
end
end Go.Proofs.YtcccdlmngddalaaGreat
