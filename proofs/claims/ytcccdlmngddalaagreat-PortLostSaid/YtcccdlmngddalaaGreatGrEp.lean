/- GroupEnds: the plain law. -/
import Derived.Test.YtcccdlmngddalaaGreatGrGb
import Derived.Test.YtcccdlmngddalaaGreatGrZe
import Derived.Test.YtcccdlmngddalaaGreatGrGd
import Derived.Test.YtcccdlmngddalaaGreatGrZ
set_option linter.unusedVariables false
set_option linter.unusedSimpArgs false
namespace Go.Proofs.YtcccdlmngddalaaGreat
open Go.RowKit Go.Sort
def dueB (T : Ad → Option Int) (n : Int) (a : Ad) : Bool := match T a with
  | some t => decide (t ≤ n)
  | none => false
def nowG (G : Gs) (n : Int) : Int := max G.now (min n 1000000000000)
def goneG (G : Gs) (n : Int) : Bool := G.ex && decide (G.till ≤ nowG G n)
def settleG (G : Gs) (n : Int) : Gs :=
  { G with
    now := nowG G n
    ex := G.ex && !goneG G n
    on := G.on.filter fun a => !dueB G.T (nowG G n) a
    off := if goneG G n then [] else if G.ex then orA G.off (G.on.filter fun a => dueB G.T (nowG G n) a) else G.off
    T := updn G.T (nowG G n) }
structure GOk (G : Gs) : Prop where
  on : AS G.on
  off : AS G.off
  len : G.on.length + G.off.length ≤ 400
  now0 : 0 ≤ G.now
  now1 : G.now ≤ 1000000000000
  dom : ∀ a, G.T a ≠ none → a ∈ G.on
  tb : ∀ a t, G.T a = some t → -4000000000000 ≤ t ∧ t ≤ 4000000000000
  till : -4000000000000 ≤ G.till ∧ G.till ≤ 4000000000000
theorem dueB_iff {T : Ad → Option Int} {n : Int} {a : Ad} : dueB T n a = true ↔ ∃ t, T a = some t ∧ t ≤ n := by
  unfold dueB
  cases hT : T a with
  | none => simp
  | some t => simp
theorem out_due {L ks : List (Ad × Int)} {T : Ad → Option Int} (h : TL L T) {now : Int} (hp : ks.Perm (dueL now L)) (a : Ad) : a ∈ ks.map (·.1) ↔ dueB T now a = true := by
  rw [dueB_iff, List.mem_map]
  constructor
  · rintro ⟨q, hq, rfl⟩
    have := hp.mem_iff.1 hq
    unfold dueL at this
    rw [List.mem_filter] at this
    exact ⟨q.2, h.mem.2 this.1, by simpa using this.2⟩
  · rintro ⟨t, ht, hle⟩
    refine ⟨(a, t), hp.mem_iff.2 ?_, rfl⟩
    unfold dueL
    exact List.mem_filter.2 ⟨h.mem.1 ht, by simpa using hle⟩
theorem exp_on {L ks : List (Ad × Int)} {T : Ad → Option Int} (h : TL L T) {now : Int} (hp : ks.Perm (dueL now L)) {on : List Ad} (hon : AS on) : minA on (ofA (ks.map (·.1))) = on.filter (fun a => !dueB T now a) ∧ andA on (ofA (ks.map (·.1))) = on.filter fun a => dueB T now a := by
  have ho := ofA_as (ks.map (·.1))
  have key : ∀ a ∈ on, (a ∈ ofA (ks.map (·.1)) ↔ dueB T now a = true) := fun a ha => by
    rw [mem_ofA, out_due h hp]
    exact ⟨fun h => h.1, fun h' => ⟨h', hon.2 a ha⟩⟩
  constructor
  · refine AS.ext (minA_as hon ho) (hon.filter _) fun a => ?_
    rw [mem_minA hon ho, List.mem_filter]
    constructor
    · rintro ⟨h1, h2⟩
      exact ⟨h1, by rw [key a h1] at h2; simpa using h2⟩
    · rintro ⟨h1, h2⟩
      exact ⟨h1, by rw [key a h1]; simpa using h2⟩
  · refine AS.ext (andA_as hon ho) (hon.filter _) fun a => ?_
    rw [mem_andA hon ho, List.mem_filter]
    constructor
    · rintro ⟨h1, h2⟩
      exact ⟨h1, (key a h1).1 h2⟩
    · rintro ⟨h1, h2⟩
      exact ⟨h1, (key a h1).2 h2⟩
theorem exp_none {L ks : List (Ad × Int)} {T : Ad → Option Int} (h : TL L T) {now : Int} (hp : ks.Perm (dueL now L)) (h0 : ks = []) (on : List Ad) : on.filter (fun a => !dueB T now a) = on ∧ on.filter (fun a => dueB T now a) = [] := by
  have hd : ∀ a, dueB T now a = false := fun a => by
    cases hd : dueB T now a with
    | false => rfl
    | true => have := (out_due h hp a).2 hd; rw [h0] at this; cases this
  constructor
  · exact List.filter_eq_self.2 fun a _ => by rw [hd]; rfl
  · exact List.filter_eq_nil_iff.2 fun a _ => by rw [hd]; simp
def gX (G : Gs) (n : Int) : Gs := { G with now := nowG G n, on := G.on.filter (fun a => !dueB G.T (nowG G n) a), off := if G.ex then orA G.off (G.on.filter fun a => dueB G.T (nowG G n) a) else G.off, T := updn G.T (nowG G n) }
set_option maxRecDepth 100000 in
set_option maxHeartbeats 4000000 in
theorem gsettle {N : Nat} (SO : SortOk N) {w : World} {p c b : Nat} {G : Gs} {a1 : Option Addr} {n1 k1 : Nat} {a2 : Option Addr} {n2 k2 : Nat} {L : List (Ad × Int)} (h : GIn w p c b G a1 n1 k1 a2 n2 k2 L) (ok : GOk G) (n : Int) (hN : (dueL (nowG G n) L).length ≤ N) :
    Calls Tryz.prog 41 #[.pointer (some ⟨p, 0, none⟩), .int .i64 n] w fun e w' => e = .returned (.tuple #[]) ∧ GAt w' p c b (settleG G n) ∧ Mod (fun k => k = p ∨ k = b) w w' := by
  have c1 : w.cell? ⟨p, 1, none⟩ = some (.int .i64 G.now) := h.blk.cell rfl
  have HH := Lib.hid h
  have OK := Lib.hid ok
  have HLL : Hid (L.length ≤ 400) := Lib.hid (by have h1 := h.clk.tl.len (D := G.on) ok.dom; have := ok.len; omega)
  have hlo : G.on.length ≤ 400 := by have := ok.len; omega
  have hlf : G.off.length ≤ 400 := by have := ok.len; omega
  have hpl := h.blk.lt
  have hbl := h.clk.mp.lt
  have HNE := Lib.hid h.ne
  obtain ⟨NW, hNW⟩ : ∃ NW, NW = nowG G n := ⟨_, rfl⟩
  have HNW := Lib.hid hNW
  rw [← hNW] at hN
  have HN := Lib.hid hN
  have HSO := Lib.hid SO
  have HGX : Hid (gX G n = { G with now := NW, on := G.on.filter (fun a => !dueB G.T NW a), off := (if G.ex then orA G.off (G.on.filter fun a => dueB G.T NW a) else G.off), T := updn G.T NW }) := Lib.hid (by rw [hNW]; rfl)
  clear h ok hNW hN SO
  obtain ⟨gb, hgb⟩ : ∃ gb, gb = goneG G n := ⟨_, rfl⟩
  have HGB := Lib.hid hgb
  have HGC : Hid (G.ex = true → decide (G.till ≤ NW) = gb) := Lib.hid fun h => by rw [hgb]; unfold goneG; rw [h, HNW.out]; rfl
  clear hgb
  go_enter Tryz.func41, Tryz.ntmps41
  go_wp2_with (refine wpList_store_blk1 rfl _ _ _ rfl p 1 90 _ (.int .i64 NW) rfl (by rw [HNW.out]; rfl) HH.out.blk (by simp [gC]) iSz rfl ?_; intro W1 HX1 HY1)
  have HI1 : Hid (GIn W1 p c b { G with now := NW } a1 n1 k1 a2 n2 k2 L) := Lib.hid ⟨HX1.out, HH.out.on.keepT HY1.out (HH.out.blk.notA (by decide)), HH.out.off.keepT HY1.out (HH.out.blk.notA (by decide)), HH.out.clk.keep HY1.out (fun e => HNE.out.1 e.symm) fun e => HNE.out.2.1 e.symm⟩
  have HM1 : Hid (Mod (fun k => k = p ∨ k = b) w W1) := Lib.hid (HY1.out.mono fun k hk => .inl (.inl hk))
  clear HX1 HY1
  cases hex : G.ex with
  | false =>
    have HE := Lib.hid hex
    have hS : W1.drew.cell? ⟨p, 2, none⟩ = some (.bool false) := by have := HI1.out.blk.cell (j := 2) rfl; rw [show ({ G with now := NW } : Gs).ex = G.ex from rfl, hex] at this; exact this
    clear hex
    refine wp_region_plan [] [(0, 0), (1, 0), (2, 0), (3, 0), (4, 1), (5, 0), (6, 0), (7, 0), (8, 0), (9, 1), (10, 0), (11, 0), (12, 0), (13, 1), (14, 0), (15, 0), (16, 0)] (fun w' : World => w'.cell? ⟨p, 2, none⟩ = some (.bool false)) (by kernel_rfl) (by kernel_rfl) (fun d v c a w h => by first | (cases d <;> exact h) | exact HP d v c a w h) ?_
    repeat ((first | refine plan_skip rfl rfl ?_ | refine plan_pass2 rfl rfl ?_ | refine plan_pass3 rfl rfl ?_ | (refine plan_take (v := ?_) rfl rfl ?_ ?_; rotate_left; focus (intro w0; go_simp; try with_reducible rfl)) | (refine plan_held (v := ?_) rfl rfl hS ?_ ?_; rotate_left; focus (intro w0 hSw; (try dsimp only at hSw); go_split_ands; go_simp; try with_reducible rfl)) | refine plan_skip1 rfl rfl hS ?_); simp only [nA, nB, nC, Act.put, nD, nE, nF])
    refine plan_nil ?_
    clear hS
    have hS3 : W1.drew.drew.cell? ⟨p, 6, none⟩ = some (.pointer (some ⟨c, 0, none⟩)) ∧ W1.drew.drew.cell? ⟨p, 1, none⟩ = some (.int .i64 NW) := ⟨HI1.out.blk.cell rfl, HI1.out.blk.cell rfl⟩
    go_wp2_with fail
    refine wp_region_plan [8] [(0, 0), (1, 0), (2, 0), (3, 1), (4, 0), (5, 0), (6, 0), (7, 1), (10, 0), (8, 3), (9, 0)] (fun w' : World => w'.cell? ⟨p, 6, none⟩ = some (.pointer (some ⟨c, 0, none⟩)) ∧ w'.cell? ⟨p, 1, none⟩ = some (.int .i64 NW)) (by kernel_rfl) (by kernel_rfl) (fun d v c a w h => by first | (cases d <;> exact h) | exact HP d v c a w h) ?_
    repeat ((first | refine plan_skip rfl rfl ?_ | refine plan_pass2 rfl rfl ?_ | refine plan_pass3 rfl rfl ?_ | (refine plan_take (v := ?_) rfl rfl ?_ ?_; rotate_left; focus (intro w0; go_simp; try with_reducible rfl)) | (refine plan_held (v := ?_) rfl rfl hS3 ?_ ?_; rotate_left; focus (intro w0 hSw; (try dsimp only at hSw); go_split_ands; go_simp; try with_reducible rfl)) | refine plan_skip1 rfl rfl hS3 ?_); simp only [nA, nB, nC, Act.put, nD, nE, nF])
    (refine plan_end rfl rfl rfl fun K hK => ?_; (try simp only [nA, nB, nC]))
    go_simp
    refine (cPop HSO.out (HI1.out.clk.keep0 ((Mod.refl _ W1).drew.drew)) (by have := HLL.out; omega) NW HN.out).mono ?_
    rintro e W2 ⟨v, ks, L', rfl, hp, hr, hc, hm⟩
    obtain ⟨m, hmk⟩ : ∃ m, m = ks.length := ⟨_, rfl⟩
    have hr' := hr
    unfold RowS at hr'
    obtain ⟨ad, cap, rfl, hnc, hcm, hg⟩ := Row.form hr'
    unfold maxLen at hcm
    rw [← hmk] at hnc ⊢
    have hm4 : m ≤ 400 := by
      have h1 := hp.length_eq
      have h2 := List.length_filter_le (fun p : Ad × Int => decide (p.2 ≤ NW)) L
      unfold dueL at h1
      have := HLL.out
      omega
    have HMK := Lib.hid hmk
    have HP := Lib.hid hp
    have HG : Hid (0 < m → ∃ g, ad = some ⟨g, 0, none⟩ ∧ ∀ j p, ks[j]? = some p → W2.cell? ⟨g, j, none⟩ = some (.string ⟨p.1.kk.toArray⟩)) := Lib.hid fun h0 => by
      obtain ⟨g, e, hf, _, hc⟩ := hg (by rw [← hmk]; exact h0)
      exact ⟨g, e, fun j p hj => hc j _ (by rw [List.getElem?_map, hj]; rfl)⟩
    have HI2 : Hid (GIn W2 p c b { G with now := NW, T := updn G.T NW } a1 n1 k1 a2 n2 k2 L') := Lib.hid ((HI1.out.keep0 ((Mod.refl _ W1).drew.drew)).setC hm hc)
    have HM2 : Hid (Mod (fun k => k = p ∨ k = b) w W2) := Lib.hid (HM1.out.drew.drew.trans hm fun k hk => .inl (.inr hk))
    refine hK _ _ ?_
    clear hK K hp hr hr' hg hc hm hmk hS3 HI1 HM1
    try simp only [nA, nB, nC, Act.put, nD, nE, nF]
    repeat ((first | refine plan_skip rfl rfl ?_ | refine plan_pass2 rfl rfl ?_ | refine plan_pass3 rfl rfl ?_ | (refine plan_take (v := ?_) rfl rfl ?_ ?_; rotate_left; focus (intro w0; go_simp; try with_reducible rfl))); simp only [nA, nB, nC, Act.put, nD, nE, nF])
    refine plan_nil ?_
    go_wp2_with fail
    go_loopw [5, 46] (fun v5 iv wr => ∃ j : Nat, j ≤ m ∧ iv = .int .i64 (j : Int) ∧ RowA wr (fun q => W2.heap.size ≤ q) v5 ((ks.take j).map (·.1)) ∧ Mod (fun _ => False) W2 wr) (fun _ iv _ => m - (intOf iv).toNat)
    case atStart => exact ⟨0, Nat.zero_le _, rfl, RowA.nil _ _, Mod.refl _ _⟩
    case round =>
      obtain ⟨j, hj, rfl, hrow, hmw⟩ := hrel
      obtain ⟨a5, n5, c5, rfl⟩ := hrow.sl
      have HROW := Lib.hid hrow
      have HMW := Lib.hid hmw
      clear hrow hmw
      by_cases hlt : j < m
      · obtain ⟨q, hq⟩ : ∃ q, ks[j]? = some q := ⟨_, List.getElem?_eq_getElem (by rw [← HMK.out]; exact hlt)⟩
        obtain ⟨g, rfl, hcell⟩ := HG.out (by omega)
        obtain ⟨x, hx⟩ : ∃ x, x = q.1 := ⟨_, rfl⟩
        have hxg : x.good = true := by rw [hx]; exact HH.out.clk.tl.gd q (by have := HP.out.mem_iff.1 (List.mem_of_getElem? hq); unfold dueL at this; exact (List.mem_filter.1 this).1)
        have x0 : wr.cell? ⟨g, j, none⟩ = some (.string x.key) := HMW.out.cell (fun f => f) (by rw [hx]; exact hcell j q hq)
        obtain ⟨lj, hlj⟩ : ∃ lj, lj = (ks.take j).map (·.1) := ⟨_, rfl⟩
        rw [← hlj] at HROW
        have HSN : Hid ((ks.take (j + 1)).map (·.1) = (ks.take j).map (·.1) ++ [x]) := Lib.hid (by rw [List.take_add_one, hq, hx]; simp)
        have HXG := Lib.hid hxg
        have HXS := Lib.hid x.c_sz
        have HXL := Lib.hid x.c_len
        have HX1 := Lib.hid x.c_one
        have HFIT : Hid (0 + x.c.length ≤ (adrC false z16).length) := Lib.hid (by rw [x.c_len]; decide)
        have HLK : Hid (((ks.take j).map (·.1)).length ≤ 400) := Lib.hid (by rw [List.length_map, List.length_take]; omega)
        rw [← hlj] at HSN HLK
        clear hcell hq hx hxg hlj
        go_wp2_with (first
          | (go_at_call 83; refine (Read_ad HXG.out _).mono ?_; rintro e w2 ⟨rfl, hm2⟩; have HMR : Hid (Mod (fun _ => False) W2 w2) := Lib.hid (HMW.out.trans hm2 fun _ f => f.elim); have HNB2 := Lib.hid (Blk.new w2 36 (adrC false z16)); have HRR := Lib.hid (HROW.out.keep0 hm2); clear hm2)
          | (refine wpList_store_blk rfl _ _ _ rfl w2.heap.size 0 36 (adrC false z16) x.c rfl rfl HNB2.out HFIT.out HXS.out HX1.out ?_; intro w3 HB3 HM3; have HB := Lib.hid (splice_all HB3.out (by rw [x.c_len]; rfl)); have HQ3 : Hid (Mod (fun _ => False) w2 w3) := Lib.hid (((Mod.refl _ _).alloc _).trans HM3.out fun x hx => .inr (by omega)); have HR3 := Lib.hid (HRR.out.keep0 HQ3.out); have HMS : Hid (Mod (fun _ => False) W2 w3) := Lib.hid (HMR.out.trans HQ3.out fun _ f => f.elim))
          | (refine wpList_load_blk rfl _ _ rfl w2.heap.size 0 rfl 36 x.c x.c _ HB.out (List.take_of_length_le (Nat.le_refl _)) Tryz.underlying36 rfl HXS.out ?_)
          | (refine wpList_buildSlice1 Tryz.elA rfl _ rfl x.c rfl HXL.out (by decide) (by decide) ?_)
          | (at_builtin; refine wpList_append_one Tryz.elA rfl (.tmp 55) (.tmp 57) rfl x.c.toArray (fun q => W2.heap.size ≤ q) (.slice a5 n5 c5) lj.length (cellsA lj) (HR3.out.alloc _) _ (allocNew w3 _) rfl rfl (by simpa using HXL.out) (by simpa using HX1.out) (by have := HLK.out; omega) (by have := HLK.out; unfold maxLen; omega) ?_; intro v9 w9 h9 h9m; have H9 := Lib.hid h9; have H9M := Lib.hid h9m; clear h9 h9m))
        go_roundw
        case rel =>
          refine ⟨j + 1, by omega, by go_num, ?_, (HMS.out.alloc _).trans H9M.out fun q hq => .inr (HR3.out.2 q hq)⟩
          rw [HSN.out]
          unfold RowA
          rw [cellsA_app, show cellsA [x] = x.c by simp [cellsA], List.length_append]
          have hsz := HMS.out.size
          exact H9.out.mono fun q hq => hq.elim (fun h => h) fun h => by simp at h; omega
        case measure => simp [intOf]; omega
      · obtain rfl : j = m := by omega
        have HOUT : Hid ((ks.take j).map (·.1) = ks.map (·.1)) := Lib.hid (by rw [HMK.out, List.take_length])
        have HRO : Hid (RowA wr (fun q => W2.heap.size ≤ q) (.slice a5 n5 c5) (ks.map (·.1))) := Lib.hid (by have := HROW.out; rwa [HOUT.out] at this)
        have hn5 : n5 = j := by have := HRO.out.len.1; rw [this, List.length_map]; exact HMK.out.symm
        subst hn5
        have HI3 := Lib.hid (HI2.out.keep0 HMW.out)
        have HM3 : Hid (Mod (fun k => k = p ∨ k = b) w wr) := Lib.hid (HM2.out.trans HMW.out fun _ f => f.elim)
        have HOL : Hid ((ks.map (·.1)).length ≤ 400) := Lib.hid (by rw [List.length_map, ← HMK.out]; exact hm4)
        have HEX := Lib.hid (exp_on HH.out.clk.tl HP.out OK.out.on)
        have HEN := Lib.hid (exp_none HH.out.clk.tl HP.out)
        clear HROW HOUT HI2 HM2 HG
        by_cases hn0 : n5 = 0
        · have hk0 : ks = [] := List.eq_nil_of_length_eq_zero (by rw [← HMK.out]; exact hn0)
          have HI5 : Hid (GIn wr p c b (gX G n) a1 n1 k1 a2 n2 k2 L') := Lib.hid (by
            obtain ⟨e1, e2⟩ := HEN.out hk0 G.on
            rw [HGX.out, e1, e2]
            have e3 : (if G.ex then orA G.off [] else G.off) = G.off := by split; exact orA_nil' _; rfl
            rw [e3]
            exact HI3.out)
          have hX : (gX G n).ex = G.ex := rfl
          subst hn0
          clear hk0 HI3 HEX HEN
          have HIT := HI5
          have HMT := HM3
          clear hX
          have HFIN : Hid (settleG G n = gX G n) := Lib.hid (by unfold settleG gX goneG; rw [HE.out]; rfl)
          go_wp2
          go_end0
          rw [HFIN.out]
          exact ⟨rfl, ⟨_, _, _, _, _, _, L', HIT.out⟩, HMT.out⟩
        · have hn0' : 0 < n5 := by omega
          clear hn0
          go_wp2_with (first
            | (refine wpList_load_blk rfl _ _ rfl p 2 rfl 90 _ [.bool G.ex, .slice a1 n1 k1, .slice a2 n2 k2] _ HI3.out.blk rfl Tryz.underlying26 rfl stSz ?_)
            | (go_at_call 84; refine (Expire_s HI3.out.on HI3.out.off (show G.on.length ≤ 600 by omega) (show G.off.length ≤ 600 by omega) HRO.out.rd (by have := HOL.out; omega) G.ex).mono ?_; rintro e W4 ⟨f1, g1, i1, f2, g2, i2, rfl, q1, q2, qm⟩; have Q1 := Lib.hid q1; have Q2 := Lib.hid q2; have HI4 := Lib.hid (HI3.out.keep0 qm); have HM4 : Hid (Mod (fun k => k = p ∨ k = b) w W4) := Lib.hid (HM3.out.trans qm fun _ f => f.elim); clear q1 q2 qm)
            | (refine wpList_store_blk rfl _ _ _ rfl p 2 90 _ [.bool G.ex, .slice f1 g1 i1, .slice f2 g2 i2] rfl rfl HI4.out.blk (by simp [gC]) stSz (by simp [Value.oneCell']) ?_; intro W5 HX5 HY5; have HI5 : Hid (GIn W5 p c b (gX G n) f1 g1 i1 f2 g2 i2 L') := Lib.hid (by
                obtain ⟨e1, e2⟩ := HEX.out
                have q1 : RT W4 (.slice f1 g1 i1) (minA G.on (ofA (ks.map (·.1)))) := Q1.out
                have q2 : RT W4 (.slice f2 g2 i2) (if G.ex then orA G.off (andA G.on (ofA (ks.map (·.1)))) else G.off) := Q2.out
                rw [e1] at q1
                rw [e2] at q2
                rw [HGX.out]
                exact ⟨HX5.out, q1.keepT HY5.out (HI4.out.blk.notA (by decide)), q2.keepT HY5.out (HI4.out.blk.notA (by decide)), HI4.out.clk.keep HY5.out (fun e => HNE.out.1 e.symm) fun e => HNE.out.2.1 e.symm⟩); have HM5 : Hid (Mod (fun k => k = p ∨ k = b) w W5) := Lib.hid (HM4.out.trans HY5.out fun k hk => .inl (.inl hk)); have hX : (gX G n).ex = G.ex := rfl))
          have HIT := HI5
          have HMT := HM5
          clear hX
          have HFIN : Hid (settleG G n = gX G n) := Lib.hid (by unfold settleG gX goneG; rw [HE.out]; rfl)
          go_wp2
          go_end0
          rw [HFIN.out]
          exact ⟨rfl, ⟨_, _, _, _, _, _, L', HIT.out⟩, HMT.out⟩
  | true =>
    have HE := Lib.hid hex
    have hS : W1.drew.cell? ⟨p, 2, none⟩ = some (.bool true) ∧ W1.drew.cell? ⟨p, 5, none⟩ = some (.int .i64 G.till) ∧ W1.drew.cell? ⟨p, 1, none⟩ = some (.int .i64 NW) := by
      refine ⟨?_, HI1.out.blk.cell rfl, HI1.out.blk.cell rfl⟩
      have := HI1.out.blk.cell (j := 2) rfl
      rw [show ({ G with now := NW } : Gs).ex = G.ex from rfl, hex] at this
      exact this
    have hgc := HGC.out hex
    clear hex
    refine wp_region_plan [] [(0, 0), (1, 0), (2, 0), (3, 0), (4, 1), (5, 0), (6, 0), (7, 0), (8, 0), (9, 1), (10, 0), (11, 0), (12, 0), (13, 1), (14, 0), (15, 0), (16, 0)] (fun w' : World => w'.cell? ⟨p, 2, none⟩ = some (.bool true) ∧ w'.cell? ⟨p, 5, none⟩ = some (.int .i64 G.till) ∧ w'.cell? ⟨p, 1, none⟩ = some (.int .i64 NW)) (by kernel_rfl) (by kernel_rfl) (fun d v c a w h => by first | (cases d <;> exact h) | exact HP d v c a w h) ?_
    repeat ((first | refine plan_skip rfl rfl ?_ | refine plan_pass2 rfl rfl ?_ | refine plan_pass3 rfl rfl ?_ | (refine plan_take (v := ?_) rfl rfl ?_ ?_; rotate_left; focus (intro w0; go_simp; try with_reducible rfl)) | (refine plan_held (v := ?_) rfl rfl hS ?_ ?_; rotate_left; focus (intro w0 hSw; (try dsimp only at hSw); go_split_ands; go_simp; try with_reducible rfl)) | refine plan_skip1 rfl rfl hS ?_); simp only [nA, nB, nC, Act.put, nD, nE, nF])
    try rw [hgc]
    clear hgc
    refine plan_nil ?_
    clear hS
    have hS3 : W1.drew.drew.cell? ⟨p, 6, none⟩ = some (.pointer (some ⟨c, 0, none⟩)) ∧ W1.drew.drew.cell? ⟨p, 1, none⟩ = some (.int .i64 NW) := ⟨HI1.out.blk.cell rfl, HI1.out.blk.cell rfl⟩
    go_wp2_with fail
    refine wp_region_plan [8] [(0, 0), (1, 0), (2, 0), (3, 1), (4, 0), (5, 0), (6, 0), (7, 1), (10, 0), (8, 3), (9, 0)] (fun w' : World => w'.cell? ⟨p, 6, none⟩ = some (.pointer (some ⟨c, 0, none⟩)) ∧ w'.cell? ⟨p, 1, none⟩ = some (.int .i64 NW)) (by kernel_rfl) (by kernel_rfl) (fun d v c a w h => by first | (cases d <;> exact h) | exact HP d v c a w h) ?_
    repeat ((first | refine plan_skip rfl rfl ?_ | refine plan_pass2 rfl rfl ?_ | refine plan_pass3 rfl rfl ?_ | (refine plan_take (v := ?_) rfl rfl ?_ ?_; rotate_left; focus (intro w0; go_simp; try with_reducible rfl)) | (refine plan_held (v := ?_) rfl rfl hS3 ?_ ?_; rotate_left; focus (intro w0 hSw; (try dsimp only at hSw); go_split_ands; go_simp; try with_reducible rfl)) | refine plan_skip1 rfl rfl hS3 ?_); simp only [nA, nB, nC, Act.put, nD, nE, nF])
    (refine plan_end rfl rfl rfl fun K hK => ?_; (try simp only [nA, nB, nC]))
    go_simp
    refine (cPop HSO.out (HI1.out.clk.keep0 ((Mod.refl _ W1).drew.drew)) (by have := HLL.out; omega) NW HN.out).mono ?_
    rintro e W2 ⟨v, ks, L', rfl, hp, hr, hc, hm⟩
    obtain ⟨m, hmk⟩ : ∃ m, m = ks.length := ⟨_, rfl⟩
    have hr' := hr
    unfold RowS at hr'
    obtain ⟨ad, cap, rfl, hnc, hcm, hg⟩ := Row.form hr'
    unfold maxLen at hcm
    rw [← hmk] at hnc ⊢
    have hm4 : m ≤ 400 := by
      have h1 := hp.length_eq
      have h2 := List.length_filter_le (fun p : Ad × Int => decide (p.2 ≤ NW)) L
      unfold dueL at h1
      have := HLL.out
      omega
    have HMK := Lib.hid hmk
    have HP := Lib.hid hp
    have HG : Hid (0 < m → ∃ g, ad = some ⟨g, 0, none⟩ ∧ ∀ j p, ks[j]? = some p → W2.cell? ⟨g, j, none⟩ = some (.string ⟨p.1.kk.toArray⟩)) := Lib.hid fun h0 => by
      obtain ⟨g, e, hf, _, hc⟩ := hg (by rw [← hmk]; exact h0)
      exact ⟨g, e, fun j p hj => hc j _ (by rw [List.getElem?_map, hj]; rfl)⟩
    have HI2 : Hid (GIn W2 p c b { G with now := NW, T := updn G.T NW } a1 n1 k1 a2 n2 k2 L') := Lib.hid ((HI1.out.keep0 ((Mod.refl _ W1).drew.drew)).setC hm hc)
    have HM2 : Hid (Mod (fun k => k = p ∨ k = b) w W2) := Lib.hid (HM1.out.drew.drew.trans hm fun k hk => .inl (.inr hk))
    refine hK _ _ ?_
    clear hK K hp hr hr' hg hc hm hmk hS3 HI1 HM1
    try simp only [nA, nB, nC, Act.put, nD, nE, nF]
    repeat ((first | refine plan_skip rfl rfl ?_ | refine plan_pass2 rfl rfl ?_ | refine plan_pass3 rfl rfl ?_ | (refine plan_take (v := ?_) rfl rfl ?_ ?_; rotate_left; focus (intro w0; go_simp; try with_reducible rfl))); simp only [nA, nB, nC, Act.put, nD, nE, nF])
    refine plan_nil ?_
    go_wp2_with fail
    go_loopw [5, 46] (fun v5 iv wr => ∃ j : Nat, j ≤ m ∧ iv = .int .i64 (j : Int) ∧ RowA wr (fun q => W2.heap.size ≤ q) v5 ((ks.take j).map (·.1)) ∧ Mod (fun _ => False) W2 wr) (fun _ iv _ => m - (intOf iv).toNat)
    case atStart => exact ⟨0, Nat.zero_le _, rfl, RowA.nil _ _, Mod.refl _ _⟩
    case round =>
      obtain ⟨j, hj, rfl, hrow, hmw⟩ := hrel
      obtain ⟨a5, n5, c5, rfl⟩ := hrow.sl
      have HROW := Lib.hid hrow
      have HMW := Lib.hid hmw
      clear hrow hmw
      by_cases hlt : j < m
      · obtain ⟨q, hq⟩ : ∃ q, ks[j]? = some q := ⟨_, List.getElem?_eq_getElem (by rw [← HMK.out]; exact hlt)⟩
        obtain ⟨g, rfl, hcell⟩ := HG.out (by omega)
        obtain ⟨x, hx⟩ : ∃ x, x = q.1 := ⟨_, rfl⟩
        have hxg : x.good = true := by rw [hx]; exact HH.out.clk.tl.gd q (by have := HP.out.mem_iff.1 (List.mem_of_getElem? hq); unfold dueL at this; exact (List.mem_filter.1 this).1)
        have x0 : wr.cell? ⟨g, j, none⟩ = some (.string x.key) := HMW.out.cell (fun f => f) (by rw [hx]; exact hcell j q hq)
        obtain ⟨lj, hlj⟩ : ∃ lj, lj = (ks.take j).map (·.1) := ⟨_, rfl⟩
        rw [← hlj] at HROW
        have HSN : Hid ((ks.take (j + 1)).map (·.1) = (ks.take j).map (·.1) ++ [x]) := Lib.hid (by rw [List.take_add_one, hq, hx]; simp)
        have HXG := Lib.hid hxg
        have HXS := Lib.hid x.c_sz
        have HXL := Lib.hid x.c_len
        have HX1 := Lib.hid x.c_one
        have HFIT : Hid (0 + x.c.length ≤ (adrC false z16).length) := Lib.hid (by rw [x.c_len]; decide)
        have HLK : Hid (((ks.take j).map (·.1)).length ≤ 400) := Lib.hid (by rw [List.length_map, List.length_take]; omega)
        rw [← hlj] at HSN HLK
        clear hcell hq hx hxg hlj
        go_wp2_with (first
          | (go_at_call 83; refine (Read_ad HXG.out _).mono ?_; rintro e w2 ⟨rfl, hm2⟩; have HMR : Hid (Mod (fun _ => False) W2 w2) := Lib.hid (HMW.out.trans hm2 fun _ f => f.elim); have HNB2 := Lib.hid (Blk.new w2 36 (adrC false z16)); have HRR := Lib.hid (HROW.out.keep0 hm2); clear hm2)
          | (refine wpList_store_blk rfl _ _ _ rfl w2.heap.size 0 36 (adrC false z16) x.c rfl rfl HNB2.out HFIT.out HXS.out HX1.out ?_; intro w3 HB3 HM3; have HB := Lib.hid (splice_all HB3.out (by rw [x.c_len]; rfl)); have HQ3 : Hid (Mod (fun _ => False) w2 w3) := Lib.hid (((Mod.refl _ _).alloc _).trans HM3.out fun x hx => .inr (by omega)); have HR3 := Lib.hid (HRR.out.keep0 HQ3.out); have HMS : Hid (Mod (fun _ => False) W2 w3) := Lib.hid (HMR.out.trans HQ3.out fun _ f => f.elim))
          | (refine wpList_load_blk rfl _ _ rfl w2.heap.size 0 rfl 36 x.c x.c _ HB.out (List.take_of_length_le (Nat.le_refl _)) Tryz.underlying36 rfl HXS.out ?_)
          | (refine wpList_buildSlice1 Tryz.elA rfl _ rfl x.c rfl HXL.out (by decide) (by decide) ?_)
          | (at_builtin; refine wpList_append_one Tryz.elA rfl (.tmp 55) (.tmp 57) rfl x.c.toArray (fun q => W2.heap.size ≤ q) (.slice a5 n5 c5) lj.length (cellsA lj) (HR3.out.alloc _) _ (allocNew w3 _) rfl rfl (by simpa using HXL.out) (by simpa using HX1.out) (by have := HLK.out; omega) (by have := HLK.out; unfold maxLen; omega) ?_; intro v9 w9 h9 h9m; have H9 := Lib.hid h9; have H9M := Lib.hid h9m; clear h9 h9m))
        go_roundw
        case rel =>
          refine ⟨j + 1, by omega, by go_num, ?_, (HMS.out.alloc _).trans H9M.out fun q hq => .inr (HR3.out.2 q hq)⟩
          rw [HSN.out]
          unfold RowA
          rw [cellsA_app, show cellsA [x] = x.c by simp [cellsA], List.length_append]
          have hsz := HMS.out.size
          exact H9.out.mono fun q hq => hq.elim (fun h => h) fun h => by simp at h; omega
        case measure => simp [intOf]; omega
      · obtain rfl : j = m := by omega
        have HOUT : Hid ((ks.take j).map (·.1) = ks.map (·.1)) := Lib.hid (by rw [HMK.out, List.take_length])
        have HRO : Hid (RowA wr (fun q => W2.heap.size ≤ q) (.slice a5 n5 c5) (ks.map (·.1))) := Lib.hid (by have := HROW.out; rwa [HOUT.out] at this)
        have hn5 : n5 = j := by have := HRO.out.len.1; rw [this, List.length_map]; exact HMK.out.symm
        subst hn5
        have HI3 := Lib.hid (HI2.out.keep0 HMW.out)
        have HM3 : Hid (Mod (fun k => k = p ∨ k = b) w wr) := Lib.hid (HM2.out.trans HMW.out fun _ f => f.elim)
        have HOL : Hid ((ks.map (·.1)).length ≤ 400) := Lib.hid (by rw [List.length_map, ← HMK.out]; exact hm4)
        have HEX := Lib.hid (exp_on HH.out.clk.tl HP.out OK.out.on)
        have HEN := Lib.hid (exp_none HH.out.clk.tl HP.out)
        clear HROW HOUT HI2 HM2 HG
        by_cases hn0 : n5 = 0
        · have hk0 : ks = [] := List.eq_nil_of_length_eq_zero (by rw [← HMK.out]; exact hn0)
          have HI5 : Hid (GIn wr p c b (gX G n) a1 n1 k1 a2 n2 k2 L') := Lib.hid (by
            obtain ⟨e1, e2⟩ := HEN.out hk0 G.on
            rw [HGX.out, e1, e2]
            have e3 : (if G.ex then orA G.off [] else G.off) = G.off := by split; exact orA_nil' _; rfl
            rw [e3]
            exact HI3.out)
          have hX : (gX G n).ex = G.ex := rfl
          subst hn0
          clear hk0 HI3 HEX HEN
          have HIT := HI5
          have HMT := HM3
          clear hX
          cases gb with
          | false =>
            have HFIN : Hid (settleG G n = gX G n) := Lib.hid (by have hg := HGB.out; unfold settleG gX; rw [← hg, HE.out]; rfl)
            go_wp2
            go_end0
            rw [HFIN.out]
            exact ⟨rfl, ⟨_, _, _, _, _, _, L', HIT.out⟩, HMT.out⟩
          | true =>
            have HFIN : Hid (settleG G n = { gX G n with ex := false, off := [] }) := Lib.hid (by have hg := HGB.out; unfold settleG gX; rw [← hg]; simp)
            have hon5 : (gX G n).on.length ≤ 400 := Nat.le_trans (List.length_filter_le _ _) hlo
            have hof5 : (gX G n).off.length ≤ 2000 := by
              show (if G.ex then orA G.off (G.on.filter fun a => dueB G.T (nowG G n) a) else G.off).length ≤ 2000
              have h1 := orA_len G.off (G.on.filter fun a => dueB G.T (nowG G n) a)
              have h2 := List.length_filter_le (fun a => dueB G.T (nowG G n) a) G.on
              split <;> omega
            go_wp2_with (first
              | (refine wpList_load_blk rfl _ _ rfl p 2 rfl 90 _ [.bool (gX G n).ex, .slice a1 n1 k1, .slice a2 n2 k2] _ HIT.out.blk rfl Tryz.underlying26 rfl stSz ?_)
              | (go_at_call 85; refine (Turn_s (gX G n).ex HIT.out.on (by omega)).mono ?_; rintro e W6 ⟨r1, s1, t1, r2, s2, t2, rfl, q1, q2, qm⟩; have U1 := Lib.hid q1; have U2 := Lib.hid q2; have HI6 := Lib.hid (HIT.out.keep0 qm); have HM6 : Hid (Mod (fun k => k = p ∨ k = b) w W6) := Lib.hid (HMT.out.trans qm fun _ f => f.elim); clear q1 q2 qm)
              | (refine wpList_store_blk rfl _ _ _ rfl p 2 90 _ [.bool false, .slice r1 s1 t1, .slice r2 s2 t2] rfl rfl HI6.out.blk (by simp [gC]) stSz (by simp [Value.oneCell']) ?_; intro W7 HX7 HY7))
            go_end0
            refine ⟨rfl, ⟨r1, s1, t1, r2, s2, t2, L', ?_⟩, HM6.out.trans HY7.out fun k hk => .inl (.inl hk)⟩
            rw [HFIN.out]
            exact ⟨HX7.out, U1.out.keepT HY7.out (HI6.out.blk.notA (by decide)), U2.out.keepT HY7.out (HI6.out.blk.notA (by decide)), HI6.out.clk.keep HY7.out (fun e => HNE.out.1 e.symm) fun e => HNE.out.2.1 e.symm⟩
        · have hn0' : 0 < n5 := by omega
          clear hn0
          cases gb with
          | false =>
            go_wp2_with (first
              | (refine wpList_load_blk rfl _ _ rfl p 2 rfl 90 _ [.bool G.ex, .slice a1 n1 k1, .slice a2 n2 k2] _ HI3.out.blk rfl Tryz.underlying26 rfl stSz ?_)
              | (go_at_call 84; refine (Expire_s HI3.out.on HI3.out.off (show G.on.length ≤ 600 by omega) (show G.off.length ≤ 600 by omega) HRO.out.rd (by have := HOL.out; omega) G.ex).mono ?_; rintro e W4 ⟨f1, g1, i1, f2, g2, i2, rfl, q1, q2, qm⟩; have Q1 := Lib.hid q1; have Q2 := Lib.hid q2; have HI4 := Lib.hid (HI3.out.keep0 qm); have HM4 : Hid (Mod (fun k => k = p ∨ k = b) w W4) := Lib.hid (HM3.out.trans qm fun _ f => f.elim); clear q1 q2 qm)
              | (refine wpList_store_blk rfl _ _ _ rfl p 2 90 _ [.bool G.ex, .slice f1 g1 i1, .slice f2 g2 i2] rfl rfl HI4.out.blk (by simp [gC]) stSz (by simp [Value.oneCell']) ?_; intro W5 HX5 HY5; have HI5 : Hid (GIn W5 p c b (gX G n) f1 g1 i1 f2 g2 i2 L') := Lib.hid (by
                  obtain ⟨e1, e2⟩ := HEX.out
                  have q1 : RT W4 (.slice f1 g1 i1) (minA G.on (ofA (ks.map (·.1)))) := Q1.out
                  have q2 : RT W4 (.slice f2 g2 i2) (if G.ex then orA G.off (andA G.on (ofA (ks.map (·.1)))) else G.off) := Q2.out
                  rw [e1] at q1
                  rw [e2] at q2
                  rw [HGX.out]
                  exact ⟨HX5.out, q1.keepT HY5.out (HI4.out.blk.notA (by decide)), q2.keepT HY5.out (HI4.out.blk.notA (by decide)), HI4.out.clk.keep HY5.out (fun e => HNE.out.1 e.symm) fun e => HNE.out.2.1 e.symm⟩); have HM5 : Hid (Mod (fun k => k = p ∨ k = b) w W5) := Lib.hid (HM4.out.trans HY5.out fun k hk => .inl (.inl hk)); have hX : (gX G n).ex = G.ex := rfl))
            have HFIN : Hid (settleG G n = gX G n) := Lib.hid (by have hg := HGB.out; unfold settleG gX; rw [← hg, HE.out]; rfl)
            go_end0
            rw [HFIN.out]
            exact ⟨rfl, ⟨_, _, _, _, _, _, L', HI5.out⟩, HM5.out⟩
          | true =>
            have HFIN : Hid (settleG G n = { gX G n with ex := false, off := [] }) := Lib.hid (by have hg := HGB.out; unfold settleG gX; rw [← hg]; simp)
            have hon5 : (gX G n).on.length ≤ 400 := Nat.le_trans (List.length_filter_le _ _) hlo
            have hof5 : (gX G n).off.length ≤ 2000 := by
              show (if G.ex then orA G.off (G.on.filter fun a => dueB G.T (nowG G n) a) else G.off).length ≤ 2000
              have h1 := orA_len G.off (G.on.filter fun a => dueB G.T (nowG G n) a)
              have h2 := List.length_filter_le (fun a => dueB G.T (nowG G n) a) G.on
              split <;> omega
            go_wp2_with (first
              | (refine wpList_load_blk rfl _ _ rfl p 2 rfl 90 _ [.bool G.ex, .slice a1 n1 k1, .slice a2 n2 k2] _ HI3.out.blk rfl Tryz.underlying26 rfl stSz ?_)
              | (go_at_call 84; refine (Expire_s HI3.out.on HI3.out.off (show G.on.length ≤ 600 by omega) (show G.off.length ≤ 600 by omega) HRO.out.rd (by have := HOL.out; omega) G.ex).mono ?_; rintro e W4 ⟨f1, g1, i1, f2, g2, i2, rfl, q1, q2, qm⟩; have Q1 := Lib.hid q1; have Q2 := Lib.hid q2; have HI4 := Lib.hid (HI3.out.keep0 qm); have HM4 : Hid (Mod (fun k => k = p ∨ k = b) w W4) := Lib.hid (HM3.out.trans qm fun _ f => f.elim); clear q1 q2 qm)
              | (refine wpList_store_blk rfl _ _ _ rfl p 2 90 _ [.bool G.ex, .slice f1 g1 i1, .slice f2 g2 i2] rfl rfl HI4.out.blk (by simp [gC]) stSz (by simp [Value.oneCell']) ?_; intro W5 HX5 HY5; have HI5 : Hid (GIn W5 p c b (gX G n) f1 g1 i1 f2 g2 i2 L') := Lib.hid (by
                  obtain ⟨e1, e2⟩ := HEX.out
                  have q1 : RT W4 (.slice f1 g1 i1) (minA G.on (ofA (ks.map (·.1)))) := Q1.out
                  have q2 : RT W4 (.slice f2 g2 i2) (if G.ex then orA G.off (andA G.on (ofA (ks.map (·.1)))) else G.off) := Q2.out
                  rw [e1] at q1
                  rw [e2] at q2
                  rw [HGX.out]
                  exact ⟨HX5.out, q1.keepT HY5.out (HI4.out.blk.notA (by decide)), q2.keepT HY5.out (HI4.out.blk.notA (by decide)), HI4.out.clk.keep HY5.out (fun e => HNE.out.1 e.symm) fun e => HNE.out.2.1 e.symm⟩); have HM5 : Hid (Mod (fun k => k = p ∨ k = b) w W5) := Lib.hid (HM4.out.trans HY5.out fun k hk => .inl (.inl hk)); have hX : (gX G n).ex = G.ex := rfl)
              | (refine wpList_load_blk rfl _ _ rfl p 2 rfl 90 _ [.bool (gX G n).ex, .slice f1 g1 i1, .slice f2 g2 i2] _ HI5.out.blk rfl Tryz.underlying26 rfl stSz ?_)
              | (go_at_call 85; refine (Turn_s (gX G n).ex HI5.out.on (by omega)).mono ?_; rintro e W6 ⟨r1, s1, t1, r2, s2, t2, rfl, q1, q2, qm⟩; have U1 := Lib.hid q1; have U2 := Lib.hid q2; have HI6 := Lib.hid (HI5.out.keep0 qm); have HM6 : Hid (Mod (fun k => k = p ∨ k = b) w W6) := Lib.hid (HM5.out.trans qm fun _ f => f.elim); clear q1 q2 qm)
              | (refine wpList_store_blk rfl _ _ _ rfl p 2 90 _ [.bool false, .slice r1 s1 t1, .slice r2 s2 t2] rfl rfl HI6.out.blk (by simp [gC]) stSz (by simp [Value.oneCell']) ?_; intro W7 HX7 HY7))
            go_end0
            refine ⟨rfl, ⟨r1, s1, t1, r2, s2, t2, L', ?_⟩, HM6.out.trans HY7.out fun k hk => .inl (.inl hk)⟩
            rw [HFIN.out]
            exact ⟨HX7.out, U1.out.keepT HY7.out (HI6.out.blk.notA (by decide)), U2.out.keepT HY7.out (HI6.out.blk.notA (by decide)), HI6.out.clk.keep HY7.out (fun e => HNE.out.1 e.symm) fun e => HNE.out.2.1 e.symm⟩
def roomG (G : Gs) (k : Int) (l : List Ad) : List Ad × Int :=
  if k = 6 ∧ G.ex = false then ((ofA l).filter fun a => a.v == G.v6, 0) else roomF (orA G.on G.off) (32 - (orA G.on G.off).length) ((ofA l).filter fun a => a.v == G.v6)
theorem delR1 (l : List Ad) (pg p : Nat) (v6 : Bool) : Del 93 #[.pointer (some ⟨pg, 0, none⟩)] l (fun i => !((l[i]?.map fun a => a.v == v6).getD true)) (fun _ W => (W.cell? ⟨pg, 0, none⟩ = some (.pointer (some ⟨p, 0, none⟩)) ∧ W.cell? ⟨p, 0, none⟩ = some (.bool v6)) ∧ (∀ cs z, W.heap[pg]? ≠ some (.cells cs 36 z)) ∧ (∀ cs z, W.heap[p]? ≠ some (.cells cs 36 z)) ∧ pg < W.heap.size ∧ p < W.heap.size) (fun _ => False) (fun k => k ≠ pg ∧ k ≠ p) where
  eg := enters_r1
  call i x W hx hJ := by
    refine (room1_any x hJ.1.1 hJ.1.2).mono ?_
    rintro e w' ⟨rfl, hm⟩
    refine ⟨by rw [hx]; simp; cases x.v <;> cases v6 <;> rfl, ⟨⟨hm.cell (fun f => f) hJ.1.1, hm.cell (fun f => f) hJ.1.2⟩, fun cs z e => ?_, fun cs z e => ?_, Nat.lt_of_lt_of_le hJ.2.2.2.1 hm.size, Nat.lt_of_lt_of_le hJ.2.2.2.2 hm.size⟩, hm⟩
    · rw [hm.block pg hJ.2.2.2.1 fun f => f] at e; exact hJ.2.1 cs z e
    · rw [hm.block p hJ.2.2.2.2 fun f => f] at e; exact hJ.2.2.1 cs z e
  keep i W W' hJ hm := by
    have h1 : ¬ (pg ≠ pg ∧ pg ≠ p) := fun e => e.1 rfl
    have h2 : ¬ (p ≠ pg ∧ p ≠ p) := fun e => e.2 rfl
    refine ⟨⟨hm.cell h1 hJ.1.1, hm.cell h2 hJ.1.2⟩, fun cs z e => ?_, fun cs z e => ?_, Nat.lt_of_lt_of_le hJ.2.2.2.1 hm.size, Nat.lt_of_lt_of_le hJ.2.2.2.2 hm.size⟩
    · rw [hm.block pg hJ.2.2.2.1 h1] at e; exact hJ.2.1 cs z e
    · rw [hm.block p hJ.2.2.2.2 h2] at e; exact hJ.2.2.1 cs z e
theorem delR2 {l known : List Ad} {pk pl pq : Nat} {vk : Value} {left : Int} {base top : Nat} {R : Nat → Prop} (hs : Asc known) (hn : known.length ≤ 5000) (hl : -1000 ≤ left ∧ left ≤ 1000) (hll : l.length ≤ 5000) (h1 : ¬ R pk) (h2 : ¬ R pl) (h3 : ¬ R pq) (h4 : ∀ k, base ≤ k ∧ k < top → ¬ R k) :
    Del 95 #[.pointer (some ⟨pk, 0, none⟩), .pointer (some ⟨pl, 0, none⟩), .pointer (some ⟨pq, 0, none⟩)] l (rmD known l left) (fun i W => RmJ W pk pl pq vk known l left (fun k => base ≤ k ∧ k < top) i) (fun k => k = pl ∨ k = pq) R where
  eg := enters_r2
  call i x W hx hJ := (room2_any hJ hx hs hn hl hll).mono fun _ _ h => h
  keep i W W' hJ hm := ⟨hJ.bk.keep hm h1, hJ.row.keep hm fun k hk => h4 k hk, hJ.bl.keep hm h2, hJ.bq.keep hm h3, hJ.ne⟩
set_option maxRecDepth 100000 in
set_option maxHeartbeats 2000000 in
theorem groom {w : World} {p c b : Nat} {G : Gs} {a1 : Option Addr} {n1 k1 : Nat} {a2 : Option Addr} {n2 k2 : Nat} {L : List (Ad × Int)} (h : GIn w p c b G a1 n1 k1 a2 n2 k2 L) (hon : AS G.on) (hof : AS G.off) (hlo : G.on.length ≤ 400) (hlf : G.off.length ≤ 400) (k : Int) (g : Ad) {ad : Option Addr} {n cap : Nat} {l : List Ad} (hl : RT w (.slice ad n cap) l) (hll : l.length ≤ 200) :
    Calls Tryz.prog 46 #[.pointer (some ⟨p, 0, none⟩), .agg (recC k g (.slice ad n cap)).toArray] w fun e w' => ∃ ad' n' cap', e = .returned (.tuple #[.slice ad' n' cap', .int .i64 (roomG G k l).2]) ∧ RT w' (.slice ad' n' cap') (roomG G k l).1 ∧ Mod (fun _ => False) w w' := by
  obtain ⟨RES, hRES⟩ : ∃ RES, RES = roomG G k l := ⟨_, rfl⟩
  rw [← hRES]
  have HRES := Lib.hid hRES
  have hm0 : Mod (fun _ => False) w ((w.alloc (.cells #[.pointer (some ⟨p, 0, none⟩)] 22 (0, 0))).alloc (.cells (recC k g (.slice ad n cap)).toArray 38 (0, 0))) := ((Mod.refl _ _).alloc _).alloc _
  have hb1 := (Blk.new w 22 [.pointer (some ⟨p, 0, none⟩)]).alloc (.cells (recC k g (.slice ad n cap)).toArray 38 (0, 0))
  have hb2 : Blk ((w.alloc (.cells #[.pointer (some ⟨p, 0, none⟩)] 22 (0, 0))).alloc (.cells (recC k g (.slice ad n cap)).toArray 38 (0, 0))) (w.heap.size + 1) 38 (recC k g (.slice ad n cap)) := by
    have := Blk.new (w.alloc (.cells #[.pointer (some ⟨p, 0, none⟩)] 22 (0, 0))) 38 (recC k g (.slice ad n cap))
    rwa [show (w.alloc (.cells #[.pointer (some ⟨p, 0, none⟩)] 22 (0, 0))).heap.size = w.heap.size + 1 by simp] at this
  have c0 := hb2.cell (recC_18 k g (.slice ad n cap))
  have HW := Lib.hid h
  have H0 := Lib.hid (h.keep0 hm0)
  have HL0 := Lib.hid (hl.keep0 hm0)
  have HB1 := Lib.hid hb1
  have HB2 := Lib.hid hb2
  have HM0 := Lib.hid hm0
  have HON := Lib.hid hon
  have HOF := Lib.hid hof
  have hpl := h.blk.lt
  clear h hl hm0 hb1 hb2 hRES hon hof
  go_enter Tryz.func46, Tryz.ntmps46
  go_wp2_with fail
  refine (Of_s HL0.out.rd (by omega)).mono ?_
  rintro e W1 ⟨b1, m1, d1, rfl, hr1, hm1⟩
  have HR1 := Lib.hid hr1
  have H1 := Lib.hid (H0.out.keep0 hm1)
  have HP1 := Lib.hid (HB1.out.keep hm1 fun f => f)
  have HQ1 := Lib.hid (HB2.out.keep hm1 fun f => f)
  have HM1 : Hid (Mod (fun _ => False) w W1) := Lib.hid (HM0.out.trans hm1 fun _ f => f.elim)
  clear hr1 hm1 H0 HB1 HB2 HL0 c0
  have HOL : Hid ((ofA l).length ≤ 200) := Lib.hid (Nat.le_trans (ofA_len l) hll)
  go_wp2_with fail
  have hJ0 : (W1.cell? ⟨w.heap.size, 0, none⟩ = some (.pointer (some ⟨p, 0, none⟩)) ∧ W1.cell? ⟨p, 0, none⟩ = some (.bool G.v6)) ∧ (∀ cs z, W1.heap[w.heap.size]? ≠ some (.cells cs 36 z)) ∧ (∀ cs z, W1.heap[p]? ≠ some (.cells cs 36 z)) ∧ w.heap.size < W1.heap.size ∧ p < W1.heap.size := by
    refine ⟨⟨HP1.out.cell rfl, H1.out.blk.cell rfl⟩, fun cs z e => ?_, fun cs z e => ?_, HP1.out.lt, H1.out.blk.lt⟩
    · have := HP1.out; unfold Blk at this; rw [this] at e; injection e with e; injection e with _ e; exact absurd e (by decide)
    · have := H1.out.blk; unfold Blk at this; rw [this] at e; injection e with e; injection e with _ e; exact absurd e (by decide)
  have HJ0 := Lib.hid hJ0
  clear hJ0
  refine (DeleteFunc_any (delR1 (ofA l) w.heap.size p G.v6) HR1.out (fun _ f => f.elim) (fun _ f => f.elim) (fun q hq => ⟨fun e => HR1.out.notI HP1.out (by decide) (by rw [← e]; exact hq), fun e => HR1.out.notI H1.out.blk (by decide) (by rw [← e]; exact hq)⟩) (fun q hq => ⟨by have := HJ0.out.2.2.2.1; omega, by have := HJ0.out.2.2.2.2; omega⟩) (by have := HOL.out; omega) HJ0.out).mono ?_
  rintro e W2 ⟨v2, rfl, hr2, _, hm2⟩
  rw [kp_filter _ (fun a => a.v == G.v6) (ofA l) 0 fun i x hx => by rw [Nat.zero_add, hx]; rfl] at hr2
  obtain ⟨l1, hl1⟩ : ∃ l1, l1 = (ofA l).filter fun a => a.v == G.v6 := ⟨_, rfl⟩
  rw [← hl1] at hr2
  have HL1 := Lib.hid hl1
  have HLL : Hid (l1.length ≤ 200) := Lib.hid (by rw [hl1]; exact Nat.le_trans (List.length_filter_le _ _) HOL.out)
  obtain ⟨b2, m2, d2, rfl⟩ := hr2.sl
  have hm2' : Mod (fun _ => False) w W2 := HM1.out.trans hm2 fun q hq => .inr (hq.elim (fun f => f.elim) fun hq => by have := HR1.out.2 q hq; simp at this; omega)
  have hmP : ∀ q, (False ∨ (Value.slice b1 m1 d1).ownBlock = some q) → ¬ q = w.heap.size ∧ ¬ q = w.heap.size + 1 := fun q hq => by
    rcases hq with f | hq
    · exact f.elim
    · exact ⟨fun e => HR1.out.notI HP1.out (by decide) (by rw [← e]; exact hq), fun e => HR1.out.notI HQ1.out (by decide) (by rw [← e]; exact hq)⟩
  have HR2 := Lib.hid hr2
  have HM2 := Lib.hid hm2'
  have H2 : Hid (GIn W2 p c b G a1 n1 k1 a2 n2 k2 L) := Lib.hid (HW.out.keep0 hm2')
  have HP2 := Lib.hid (HP1.out.keep hm2 fun hq => (hmP _ hq).1 rfl)
  have HQ2 := Lib.hid (HQ1.out.keep hm2 fun hq => (hmP _ hq).2 rfl)
  clear hr2 hm2 hm2' hmP hl1 HJ0 HR1 H1 HP1 HQ1 HM1
  have x0 : W2.cell? ⟨w.heap.size + 1, 0, none⟩ = some (.int .i64 k) := HQ2.out.cell rfl
  have x1 : W2.cell? ⟨w.heap.size, 0, none⟩ = some (.pointer (some ⟨p, 0, none⟩)) := HP2.out.cell rfl
  have x2 : W2.cell? ⟨p, 2, none⟩ = some (.bool G.ex) := H2.out.blk.cell rfl
  by_cases hk6 : k = 6
  case' pos => cases hex : G.ex
  case pos.false =>
    have HRS : Hid (RES = (l1, 0)) := Lib.hid (by rw [HRES.out, HL1.out]; unfold roomG; rw [if_pos ⟨hk6, hex⟩])
    rw [hex] at x2
    subst hk6
    clear hex
    go_wp2
    go_ret2
    exact ⟨_, _, _, by rw [HRS.out]; rfl, by rw [HRS.out]; exact HR2.out.rt, HM2.out⟩
  case pos.true =>
    have HRS : Hid (RES = roomF (orA G.on G.off) (32 - (orA G.on G.off).length) l1) := Lib.hid (by rw [HRES.out, HL1.out]; unfold roomG; rw [if_neg (by rw [hex]; simp)])
    rw [hex] at x2
    subst hk6
    clear hex
    have hS : W2.drew.cell? ⟨w.heap.size, 0, none⟩ = some (.pointer (some ⟨p, 0, none⟩)) ∧ W2.drew.cell? ⟨p, 3, none⟩ = some (.slice a1 n1 k1) ∧ W2.drew.cell? ⟨p, 4, none⟩ = some (.slice a2 n2 k2) := ⟨HP2.out.cell rfl, H2.out.blk.cell rfl, H2.out.blk.cell rfl⟩
    go_wp2_with fail
    clear x0 x1 x2
    refine wp_region_T [12] (.c 0 1 (.c 1 0 (.c 2 0 (.c 3 0 (.c 4 1 (.c 5 1 (.c 6 0 (.c 7 0 (.c 8 0 (.c 9 1 (.f 10 11 (.c 11 2 (.c 12 3 .n)) (.c 10 2 (.c 12 3 .n))))))))))))) (fun w' : World => w'.cell? ⟨w.heap.size, 0, none⟩ = some (.pointer (some ⟨p, 0, none⟩)) ∧ w'.cell? ⟨p, 3, none⟩ = some (.slice a1 n1 k1) ∧ w'.cell? ⟨p, 4, none⟩ = some (.slice a2 n2 k2)) (by kernel_rfl) (by kernel_rfl) (fun d _ _ _ _ h => by cases d <;> exact h) ?_
    repeat ((first | (refine T_take (v := ?_) rfl rfl ?_ ?_; rotate_left; focus (intro w0; go_simp; try with_reducible rfl)) | (refine T_held (v := ?_) rfl rfl hS ?_ ?_; rotate_left; focus (intro w0 hSw; (try dsimp only at hSw); go_split_ands; go_simp; try with_reducible rfl))); simp only [nA, nB, nC, Act.put, nD, nE, nF])
    refine T_fork rfl rfl rfl rfl (fun K hK => ?fa77) (fun K hK => ?fb77)
    case' fa77 =>
      try simp only [nA, nB, nC]
      go_simp
      refine (Or_s (w := W2.drew) H2.out.on.rd H2.out.off.rd (by omega) (by omega)).mono ?_
      rintro e W3 ⟨b3, m3, d3, rfl, hr3, hm3⟩
      refine hK _ _ ⟨hm3.cell (fun f => f) hS.1, hm3.cell (fun f => f) hS.2.1, hm3.cell (fun f => f) hS.2.2⟩ ?_
      clear hK K
      try simp only [nA, nB, nC, Act.put, nD, nE, nF]
      have hmA : Mod (fun _ => False) W2 W3 := (Mod.refl _ W2).drew.trans hm3 fun _ f => f.elim
      have HRA : Hid (RowA (W3.alloc (.cells #[.slice none 0 0] 24 (0, 0))) (fun q => W2.heap.size ≤ q) (.slice b3 m3 d3) (orA G.on G.off)) := Lib.hid (hr3.keep0 ((Mod.refl _ _).alloc _))
      have HBA : Hid (Blk (W3.alloc (.cells #[.slice none 0 0] 24 (0, 0))) W3.heap.size 24 [.slice none 0 0]) := Lib.hid (Blk.new _ _ _)
      have HMA : Hid (Mod (fun _ => False) W2 (W3.alloc (.cells #[.slice none 0 0] 24 (0, 0)))) := Lib.hid (hmA.alloc _)
      have HLE : Hid (W2.heap.size ≤ W3.heap.size) := Lib.hid hmA.size
      (refine T_do rfl rfl fun K hK => ?_; (try simp only [nA, nB, nC]))
      go_simp
      refine hK _ _ ⟨HMA.out.cell (fun f => f) hS.1, HMA.out.cell (fun f => f) hS.2.1, HMA.out.cell (fun f => f) hS.2.2⟩ ?_
      clear hK K hr3 hm3 hmA hS
      try simp only [nA, nB, nC, Act.put, nD, nE, nF]
      (refine T_end rfl rfl rfl fun K hK => ?_; (try simp only [nA, nB, nC]))
      refine wp_store_blk1 24 _ _ rfl W3.heap.size 0 24 _ (.slice b3 m3 d3) rfl rfl HBA.out (by simp) slASz rfl ?_
      intro W5 HX5 HY5
      have HR5 := Lib.hid (HRA.out.keepT HY5.out (HBA.out.notA (by decide)))
      have HM5 : Hid (Mod (fun _ => False) W2 W5) := Lib.hid (HMA.out.trans HY5.out fun q hq => .inr (by have := HLE.out; omega))
      refine hK _ _ ?_
      clear hK K HRA HBA HMA HY5
      try simp only [nA, nB, nC, Act.put, nD, nE, nF]
      refine T_nil ?_
      obtain ⟨pk, hpk⟩ : ∃ pk, pk = W3.heap.size := ⟨_, rfl⟩
      rw [← hpk] at HX5 HLE
      try rw [← hpk]
      clear hpk
    case' fb77 =>
      try simp only [nA, nB, nC]
      go_simp
      have HMA : Hid (Mod (fun _ => False) W2 (W2.drew.alloc (.cells #[.slice none 0 0] 24 (0, 0)))) := Lib.hid ((Mod.refl _ W2).drew.alloc _)
      have HBA : Hid (Blk (W2.drew.alloc (.cells #[.slice none 0 0] 24 (0, 0))) W2.heap.size 24 [.slice none 0 0]) := Lib.hid (Blk.new W2.drew _ _)
      have H2A := Lib.hid (H2.out.keep0 HMA.out)
      have hS1 := And.intro (HMA.out.cell (fun f => f) hS.1) (And.intro (HMA.out.cell (fun f => f) hS.2.1) (HMA.out.cell (fun f => f) hS.2.2))
      refine hK _ _ hS1 ?_
      clear hK K hS
      try simp only [nA, nB, nC, Act.put, nD, nE, nF]
      (refine T_do rfl rfl fun K hK => ?_; (try simp only [nA, nB, nC]))
      go_simp
      refine (Or_s H2A.out.on.rd H2A.out.off.rd (by omega) (by omega)).mono ?_
      rintro e W3 ⟨b3, m3, d3, rfl, hr3, hm3⟩
      refine hK _ _ ⟨hm3.cell (fun f => f) hS1.1, hm3.cell (fun f => f) hS1.2.1, hm3.cell (fun f => f) hS1.2.2⟩ ?_
      clear hK K hS1
      have HB3 := Lib.hid (HBA.out.keep hm3 fun f => f)
      have HRA : Hid (RowA W3 (fun q => W2.heap.size ≤ q) (.slice b3 m3 d3) (orA G.on G.off)) := Lib.hid (hr3.mono fun q hq => by simp at hq; omega)
      have HM3 : Hid (Mod (fun _ => False) W2 W3) := Lib.hid (HMA.out.trans hm3 fun _ f => f.elim)
      have HLE : Hid (W2.heap.size ≤ W2.heap.size) := Lib.hid (Nat.le_refl _)
      clear hr3 hm3 HMA HBA H2A
      try simp only [nA, nB, nC, Act.put, nD, nE, nF]
      (refine T_end rfl rfl rfl fun K hK => ?_; (try simp only [nA, nB, nC]))
      refine wp_store_blk1 24 _ _ rfl W2.heap.size 0 24 _ (.slice b3 m3 d3) rfl rfl HB3.out (by simp) slASz rfl ?_
      intro W5 HX5 HY5
      have HR5 := Lib.hid (HRA.out.keepT HY5.out (HB3.out.notA (by decide)))
      have HM5 : Hid (Mod (fun _ => False) W2 W5) := Lib.hid (HM3.out.trans HY5.out fun q hq => .inr (by omega))
      refine hK _ _ ?_
      clear hK K HRA HB3 HM3 HY5
      try simp only [nA, nB, nC, Act.put, nD, nE, nF]
      refine T_nil ?_
      obtain ⟨pk, hpk⟩ : ∃ pk, pk = W2.heap.size := ⟨_, rfl⟩
      have HLE : Hid (W2.heap.size ≤ pk) := Lib.hid (by omega)
      have HX6 : Hid (Blk W5 pk 24 [.slice b3 m3 d3]) := Lib.hid (by rw [hpk]; exact HX5.out)
      clear HX5
      have HX5 := HX6
      clear HX6
      try rw [← hpk]
      clear hpk
    all_goals
      have HK5 : Hid (Blk W5 pk 24 [.slice b3 m3 d3]) := Lib.hid HX5.out
      have hlen := HR5.out.len
      have hkl : (orA G.on G.off).length ≤ 800 := by have := orA_len G.on G.off; omega
      obtain ⟨lk, hlk⟩ : ∃ lk, lk = (orA G.on G.off).length := ⟨_, rfl⟩
      rw [← hlk] at hlen hkl HRS
      have hm3k : m3 = lk := hlen.1
      subst hm3k
      have y0 : W5.cell? ⟨pk, 0, none⟩ = some (.slice b3 m3 d3) := HK5.out.cell rfl
      have ew : IntKind.i64.wrap (32 - (m3 : Int)) = 32 - (m3 : Int) := IntWalk.i64_in _ (by omega)
      have HLK := Lib.hid hlk
      have HMB : Hid (Mod (fun _ => False) W5 ((W5.alloc (.cells #[.int .i64 0] 3 (0, 0))).alloc (.cells #[.int .i64 0] 3 (0, 0)))) := Lib.hid (((Mod.refl _ _).alloc _).alloc _)
      have HPL : Hid (Blk ((W5.alloc (.cells #[.int .i64 0] 3 (0, 0))).alloc (.cells #[.int .i64 0] 3 (0, 0))) W5.heap.size 3 [.int .i64 0]) := Lib.hid ((Blk.new W5 _ _).alloc _)
      have HPQ : Hid (Blk ((W5.alloc (.cells #[.int .i64 0] 3 (0, 0))).alloc (.cells #[.int .i64 0] 3 (0, 0))) (W5.heap.size + 1) 3 [.int .i64 0]) := Lib.hid (by
        have := Blk.new (W5.alloc (.cells #[.int .i64 0] 3 (0, 0))) 3 [.int .i64 0]
        rwa [show (W5.alloc (.cells #[.int .i64 0] 3 (0, 0))).heap.size = W5.heap.size + 1 by simp] at this)
      clear hlk hlen HX5
      go_wp2_with (first
        | (refine wpList_store_blk1 rfl _ _ _ rfl W5.heap.size 0 3 _ (.int .i64 (32 - (m3 : Int))) rfl rfl HPL.out (by simp) iSz rfl ?_; intro W6 HX6 HY6; have HPL6 : Hid (Blk W6 W5.heap.size 3 [.int .i64 (32 - (m3 : Int))]) := Lib.hid HX6.out; have HPQ6 := Lib.hid (HPQ.out.keep HY6.out fun e => by omega); have HM6 : Hid (Mod (fun _ => False) W5 W6) := Lib.hid (HMB.out.trans HY6.out fun q hq => .inr (by omega)))
        | (refine wpList_store_blk1 rfl _ _ _ rfl (W5.heap.size + 1) 0 3 _ (.int .i64 0) rfl rfl HPQ6.out (by simp) iSz rfl ?_; intro W7 HX7 HY7; have HPQ7 : Hid (Blk W7 (W5.heap.size + 1) 3 [.int .i64 0]) := Lib.hid HX7.out; have HPL7 := Lib.hid (HPL6.out.keep HY7.out fun e => by omega); have HM7 : Hid (Mod (fun _ => False) W5 W7) := Lib.hid (HM6.out.trans HY7.out fun q hq => .inr (by omega))))
      have HR27 := Lib.hid (HR2.out.keep0 (HM5.out.trans HM7.out fun _ f => f.elim))
      have hg2 : ∀ q, (Value.slice b2 m2 d2).ownBlock = some q → q < W2.heap.size := fun q hq => Row.lt HR2.out q hq
      have hs75 : W5.heap.size + 1 < W7.heap.size := HPQ7.out.lt
      have hs52 := HM5.out.size
      have hle := HLE.out
      have hpk5 : pk < W5.heap.size := HK5.out.lt
      have hRn : ∀ q, W2.heap.size ≤ q → q < W7.heap.size → ¬ ((Value.slice b2 m2 d2).ownBlock = some q ∨ W7.heap.size ≤ q) := fun q h1 h2 h3 => by
        rcases h3 with h3 | h3
        · have := hg2 q h3; omega
        · omega
      have HJ : Hid (RmJ W7 pk W5.heap.size (W5.heap.size + 1) (.slice b3 m3 d3) (orA G.on G.off) l1 (32 - (m3 : Int)) (fun q => W2.heap.size ≤ q ∧ q < W7.heap.size) 0) := Lib.hid ⟨HK5.out.keep HM7.out fun f => f, (HR5.out.keep0 HM7.out).bound, HPL7.out, HPQ7.out, by omega⟩
      refine (DeleteFunc_any (delR2 (l := l1) (R := fun q => (Value.slice b2 m2 d2).ownBlock = some q ∨ W7.heap.size ≤ q) (base := W2.heap.size) (top := W7.heap.size) (orA_as HON.out HOF.out).1 (by rw [← HLK.out]; omega) (by omega) (by have := HLL.out; omega) (hRn _ hle (by omega)) (hRn _ (by omega) (by omega)) (hRn _ (by omega) (by omega)) (fun q hq => hRn q hq.1 hq.2)) HR27.out (fun q hq e => by have := hg2 q e; omega) (fun q hq => by omega) (fun q hq => .inl hq) (fun q hq => .inr hq) (by have := HLL.out; omega) HJ.out).mono ?_
      rintro e W8 ⟨v8, rfl, hr8, hj8, hm8⟩
      obtain ⟨e1, e2⟩ := kp_room (orA G.on G.off) l1 (32 - (m3 : Int)) 0 (rmD (orA G.on G.off) l1 (32 - (m3 : Int))) fun i _ => by rw [Nat.zero_add]
      rw [e1] at hr8
      obtain ⟨b8, m8, d8, rfl⟩ := hr8.sl
      have hbq := hj8.bq
      rw [e2] at hbq
      have HR8 := Lib.hid hr8.rt
      have HM8 : Hid (Mod (fun _ => False) w W8) := Lib.hid (((HM2.out.trans HM5.out fun _ f => f.elim).trans HM7.out fun _ f => f.elim).trans hm8 fun q hq => .inr (by
        have h0 := HM2.out.size
        rcases hq with hq | hq
        · omega
        · have := HR2.out.2 q hq
          simp at this
          omega))
      have hS8 : W8.drew.cell? ⟨W5.heap.size + 1, 0, none⟩ = some (.int .i64 (roomF (orA G.on G.off) (32 - (m3 : Int)) l1).2) := hbq.cell rfl
      clear hr8 hj8 hm8 hbq e1 e2 hRn hg2 HJ
      go_wp2_with fail
      refine wp_region_plan [] [(0, 0), (1, 1), (2, 0), (3, 0)] (fun w' : World => w'.cell? ⟨W5.heap.size + 1, 0, none⟩ = some (.int .i64 (roomF (orA G.on G.off) (32 - (m3 : Int)) l1).2)) (by kernel_rfl) (by kernel_rfl) (fun d v c a w h => by first | (cases d <;> exact h) | exact HP d v c a w h) ?_
      repeat ((first | refine plan_skip rfl rfl ?_ | refine plan_pass2 rfl rfl ?_ | refine plan_pass3 rfl rfl ?_ | (refine plan_take (v := ?_) rfl rfl ?_ ?_; rotate_left; focus (intro w0; go_simp; try with_reducible rfl)) | (refine plan_held (v := ?_) rfl rfl hS8 ?_ ?_; rotate_left; focus (intro w0 hSw; (try dsimp only at hSw); go_split_ands; go_simp; try with_reducible rfl)) | refine plan_skip1 rfl rfl hS8 ?_); simp only [nA, nB, nC, Act.put, nD, nE, nF])
      refine plan_nil ?_
      go_wp2
      go_ret2
      exact ⟨b8, m8, d8, by rw [HRS.out]; rfl, by rw [HRS.out]; exact HR8.out, HM8.out.drew⟩
  case neg =>
    have HRS : Hid (RES = roomF (orA G.on G.off) (32 - (orA G.on G.off).length) l1) := Lib.hid (by rw [HRES.out, HL1.out]; unfold roomG; rw [if_neg (fun e => hk6 e.1)])
    have hS : W2.drew.cell? ⟨w.heap.size, 0, none⟩ = some (.pointer (some ⟨p, 0, none⟩)) ∧ W2.drew.cell? ⟨p, 3, none⟩ = some (.slice a1 n1 k1) ∧ W2.drew.cell? ⟨p, 4, none⟩ = some (.slice a2 n2 k2) := ⟨HP2.out.cell rfl, H2.out.blk.cell rfl, H2.out.blk.cell rfl⟩
    go_wp2_with fail
    clear x0 x1 x2
    refine wp_region_T [12] (.c 0 1 (.c 1 0 (.c 2 0 (.c 3 0 (.c 4 1 (.c 5 1 (.c 6 0 (.c 7 0 (.c 8 0 (.c 9 1 (.f 10 11 (.c 11 2 (.c 12 3 .n)) (.c 10 2 (.c 12 3 .n))))))))))))) (fun w' : World => w'.cell? ⟨w.heap.size, 0, none⟩ = some (.pointer (some ⟨p, 0, none⟩)) ∧ w'.cell? ⟨p, 3, none⟩ = some (.slice a1 n1 k1) ∧ w'.cell? ⟨p, 4, none⟩ = some (.slice a2 n2 k2)) (by kernel_rfl) (by kernel_rfl) (fun d _ _ _ _ h => by cases d <;> exact h) ?_
    repeat ((first | (refine T_take (v := ?_) rfl rfl ?_ ?_; rotate_left; focus (intro w0; go_simp; try with_reducible rfl)) | (refine T_held (v := ?_) rfl rfl hS ?_ ?_; rotate_left; focus (intro w0 hSw; (try dsimp only at hSw); go_split_ands; go_simp; try with_reducible rfl))); simp only [nA, nB, nC, Act.put, nD, nE, nF])
    refine T_fork rfl rfl rfl rfl (fun K hK => ?fa78) (fun K hK => ?fb78)
    case' fa78 =>
      try simp only [nA, nB, nC]
      go_simp
      refine (Or_s (w := W2.drew) H2.out.on.rd H2.out.off.rd (by omega) (by omega)).mono ?_
      rintro e W3 ⟨b3, m3, d3, rfl, hr3, hm3⟩
      refine hK _ _ ⟨hm3.cell (fun f => f) hS.1, hm3.cell (fun f => f) hS.2.1, hm3.cell (fun f => f) hS.2.2⟩ ?_
      clear hK K
      try simp only [nA, nB, nC, Act.put, nD, nE, nF]
      have hmA : Mod (fun _ => False) W2 W3 := (Mod.refl _ W2).drew.trans hm3 fun _ f => f.elim
      have HRA : Hid (RowA (W3.alloc (.cells #[.slice none 0 0] 24 (0, 0))) (fun q => W2.heap.size ≤ q) (.slice b3 m3 d3) (orA G.on G.off)) := Lib.hid (hr3.keep0 ((Mod.refl _ _).alloc _))
      have HBA : Hid (Blk (W3.alloc (.cells #[.slice none 0 0] 24 (0, 0))) W3.heap.size 24 [.slice none 0 0]) := Lib.hid (Blk.new _ _ _)
      have HMA : Hid (Mod (fun _ => False) W2 (W3.alloc (.cells #[.slice none 0 0] 24 (0, 0)))) := Lib.hid (hmA.alloc _)
      have HLE : Hid (W2.heap.size ≤ W3.heap.size) := Lib.hid hmA.size
      (refine T_do rfl rfl fun K hK => ?_; (try simp only [nA, nB, nC]))
      go_simp
      refine hK _ _ ⟨HMA.out.cell (fun f => f) hS.1, HMA.out.cell (fun f => f) hS.2.1, HMA.out.cell (fun f => f) hS.2.2⟩ ?_
      clear hK K hr3 hm3 hmA hS
      try simp only [nA, nB, nC, Act.put, nD, nE, nF]
      (refine T_end rfl rfl rfl fun K hK => ?_; (try simp only [nA, nB, nC]))
      refine wp_store_blk1 24 _ _ rfl W3.heap.size 0 24 _ (.slice b3 m3 d3) rfl rfl HBA.out (by simp) slASz rfl ?_
      intro W5 HX5 HY5
      have HR5 := Lib.hid (HRA.out.keepT HY5.out (HBA.out.notA (by decide)))
      have HM5 : Hid (Mod (fun _ => False) W2 W5) := Lib.hid (HMA.out.trans HY5.out fun q hq => .inr (by have := HLE.out; omega))
      refine hK _ _ ?_
      clear hK K HRA HBA HMA HY5
      try simp only [nA, nB, nC, Act.put, nD, nE, nF]
      refine T_nil ?_
      obtain ⟨pk, hpk⟩ : ∃ pk, pk = W3.heap.size := ⟨_, rfl⟩
      rw [← hpk] at HX5 HLE
      try rw [← hpk]
      clear hpk
    case' fb78 =>
      try simp only [nA, nB, nC]
      go_simp
      have HMA : Hid (Mod (fun _ => False) W2 (W2.drew.alloc (.cells #[.slice none 0 0] 24 (0, 0)))) := Lib.hid ((Mod.refl _ W2).drew.alloc _)
      have HBA : Hid (Blk (W2.drew.alloc (.cells #[.slice none 0 0] 24 (0, 0))) W2.heap.size 24 [.slice none 0 0]) := Lib.hid (Blk.new W2.drew _ _)
      have H2A := Lib.hid (H2.out.keep0 HMA.out)
      have hS1 := And.intro (HMA.out.cell (fun f => f) hS.1) (And.intro (HMA.out.cell (fun f => f) hS.2.1) (HMA.out.cell (fun f => f) hS.2.2))
      refine hK _ _ hS1 ?_
      clear hK K hS
      try simp only [nA, nB, nC, Act.put, nD, nE, nF]
      (refine T_do rfl rfl fun K hK => ?_; (try simp only [nA, nB, nC]))
      go_simp
      refine (Or_s H2A.out.on.rd H2A.out.off.rd (by omega) (by omega)).mono ?_
      rintro e W3 ⟨b3, m3, d3, rfl, hr3, hm3⟩
      refine hK _ _ ⟨hm3.cell (fun f => f) hS1.1, hm3.cell (fun f => f) hS1.2.1, hm3.cell (fun f => f) hS1.2.2⟩ ?_
      clear hK K hS1
      have HB3 := Lib.hid (HBA.out.keep hm3 fun f => f)
      have HRA : Hid (RowA W3 (fun q => W2.heap.size ≤ q) (.slice b3 m3 d3) (orA G.on G.off)) := Lib.hid (hr3.mono fun q hq => by simp at hq; omega)
      have HM3 : Hid (Mod (fun _ => False) W2 W3) := Lib.hid (HMA.out.trans hm3 fun _ f => f.elim)
      have HLE : Hid (W2.heap.size ≤ W2.heap.size) := Lib.hid (Nat.le_refl _)
      clear hr3 hm3 HMA HBA H2A
      try simp only [nA, nB, nC, Act.put, nD, nE, nF]
      (refine T_end rfl rfl rfl fun K hK => ?_; (try simp only [nA, nB, nC]))
      refine wp_store_blk1 24 _ _ rfl W2.heap.size 0 24 _ (.slice b3 m3 d3) rfl rfl HB3.out (by simp) slASz rfl ?_
      intro W5 HX5 HY5
      have HR5 := Lib.hid (HRA.out.keepT HY5.out (HB3.out.notA (by decide)))
      have HM5 : Hid (Mod (fun _ => False) W2 W5) := Lib.hid (HM3.out.trans HY5.out fun q hq => .inr (by omega))
      refine hK _ _ ?_
      clear hK K HRA HB3 HM3 HY5
      try simp only [nA, nB, nC, Act.put, nD, nE, nF]
      refine T_nil ?_
      obtain ⟨pk, hpk⟩ : ∃ pk, pk = W2.heap.size := ⟨_, rfl⟩
      have HLE : Hid (W2.heap.size ≤ pk) := Lib.hid (by omega)
      have HX6 : Hid (Blk W5 pk 24 [.slice b3 m3 d3]) := Lib.hid (by rw [hpk]; exact HX5.out)
      clear HX5
      have HX5 := HX6
      clear HX6
      try rw [← hpk]
      clear hpk
    all_goals
      have HK5 : Hid (Blk W5 pk 24 [.slice b3 m3 d3]) := Lib.hid HX5.out
      have hlen := HR5.out.len
      have hkl : (orA G.on G.off).length ≤ 800 := by have := orA_len G.on G.off; omega
      obtain ⟨lk, hlk⟩ : ∃ lk, lk = (orA G.on G.off).length := ⟨_, rfl⟩
      rw [← hlk] at hlen hkl HRS
      have hm3k : m3 = lk := hlen.1
      subst hm3k
      have y0 : W5.cell? ⟨pk, 0, none⟩ = some (.slice b3 m3 d3) := HK5.out.cell rfl
      have ew : IntKind.i64.wrap (32 - (m3 : Int)) = 32 - (m3 : Int) := IntWalk.i64_in _ (by omega)
      have HLK := Lib.hid hlk
      have HMB : Hid (Mod (fun _ => False) W5 ((W5.alloc (.cells #[.int .i64 0] 3 (0, 0))).alloc (.cells #[.int .i64 0] 3 (0, 0)))) := Lib.hid (((Mod.refl _ _).alloc _).alloc _)
      have HPL : Hid (Blk ((W5.alloc (.cells #[.int .i64 0] 3 (0, 0))).alloc (.cells #[.int .i64 0] 3 (0, 0))) W5.heap.size 3 [.int .i64 0]) := Lib.hid ((Blk.new W5 _ _).alloc _)
      have HPQ : Hid (Blk ((W5.alloc (.cells #[.int .i64 0] 3 (0, 0))).alloc (.cells #[.int .i64 0] 3 (0, 0))) (W5.heap.size + 1) 3 [.int .i64 0]) := Lib.hid (by
        have := Blk.new (W5.alloc (.cells #[.int .i64 0] 3 (0, 0))) 3 [.int .i64 0]
        rwa [show (W5.alloc (.cells #[.int .i64 0] 3 (0, 0))).heap.size = W5.heap.size + 1 by simp] at this)
      clear hlk hlen HX5
      go_wp2_with (first
        | (refine wpList_store_blk1 rfl _ _ _ rfl W5.heap.size 0 3 _ (.int .i64 (32 - (m3 : Int))) rfl rfl HPL.out (by simp) iSz rfl ?_; intro W6 HX6 HY6; have HPL6 : Hid (Blk W6 W5.heap.size 3 [.int .i64 (32 - (m3 : Int))]) := Lib.hid HX6.out; have HPQ6 := Lib.hid (HPQ.out.keep HY6.out fun e => by omega); have HM6 : Hid (Mod (fun _ => False) W5 W6) := Lib.hid (HMB.out.trans HY6.out fun q hq => .inr (by omega)))
        | (refine wpList_store_blk1 rfl _ _ _ rfl (W5.heap.size + 1) 0 3 _ (.int .i64 0) rfl rfl HPQ6.out (by simp) iSz rfl ?_; intro W7 HX7 HY7; have HPQ7 : Hid (Blk W7 (W5.heap.size + 1) 3 [.int .i64 0]) := Lib.hid HX7.out; have HPL7 := Lib.hid (HPL6.out.keep HY7.out fun e => by omega); have HM7 : Hid (Mod (fun _ => False) W5 W7) := Lib.hid (HM6.out.trans HY7.out fun q hq => .inr (by omega))))
      have HR27 := Lib.hid (HR2.out.keep0 (HM5.out.trans HM7.out fun _ f => f.elim))
      have hg2 : ∀ q, (Value.slice b2 m2 d2).ownBlock = some q → q < W2.heap.size := fun q hq => Row.lt HR2.out q hq
      have hs75 : W5.heap.size + 1 < W7.heap.size := HPQ7.out.lt
      have hs52 := HM5.out.size
      have hle := HLE.out
      have hpk5 : pk < W5.heap.size := HK5.out.lt
      have hRn : ∀ q, W2.heap.size ≤ q → q < W7.heap.size → ¬ ((Value.slice b2 m2 d2).ownBlock = some q ∨ W7.heap.size ≤ q) := fun q h1 h2 h3 => by
        rcases h3 with h3 | h3
        · have := hg2 q h3; omega
        · omega
      have HJ : Hid (RmJ W7 pk W5.heap.size (W5.heap.size + 1) (.slice b3 m3 d3) (orA G.on G.off) l1 (32 - (m3 : Int)) (fun q => W2.heap.size ≤ q ∧ q < W7.heap.size) 0) := Lib.hid ⟨HK5.out.keep HM7.out fun f => f, (HR5.out.keep0 HM7.out).bound, HPL7.out, HPQ7.out, by omega⟩
      refine (DeleteFunc_any (delR2 (l := l1) (R := fun q => (Value.slice b2 m2 d2).ownBlock = some q ∨ W7.heap.size ≤ q) (base := W2.heap.size) (top := W7.heap.size) (orA_as HON.out HOF.out).1 (by rw [← HLK.out]; omega) (by omega) (by have := HLL.out; omega) (hRn _ hle (by omega)) (hRn _ (by omega) (by omega)) (hRn _ (by omega) (by omega)) (fun q hq => hRn q hq.1 hq.2)) HR27.out (fun q hq e => by have := hg2 q e; omega) (fun q hq => by omega) (fun q hq => .inl hq) (fun q hq => .inr hq) (by have := HLL.out; omega) HJ.out).mono ?_
      rintro e W8 ⟨v8, rfl, hr8, hj8, hm8⟩
      obtain ⟨e1, e2⟩ := kp_room (orA G.on G.off) l1 (32 - (m3 : Int)) 0 (rmD (orA G.on G.off) l1 (32 - (m3 : Int))) fun i _ => by rw [Nat.zero_add]
      rw [e1] at hr8
      obtain ⟨b8, m8, d8, rfl⟩ := hr8.sl
      have hbq := hj8.bq
      rw [e2] at hbq
      have HR8 := Lib.hid hr8.rt
      have HM8 : Hid (Mod (fun _ => False) w W8) := Lib.hid (((HM2.out.trans HM5.out fun _ f => f.elim).trans HM7.out fun _ f => f.elim).trans hm8 fun q hq => .inr (by
        have h0 := HM2.out.size
        rcases hq with hq | hq
        · omega
        · have := HR2.out.2 q hq
          simp at this
          omega))
      have hS8 : W8.drew.cell? ⟨W5.heap.size + 1, 0, none⟩ = some (.int .i64 (roomF (orA G.on G.off) (32 - (m3 : Int)) l1).2) := hbq.cell rfl
      clear hr8 hj8 hm8 hbq e1 e2 hRn hg2 HJ
      go_wp2_with fail
      refine wp_region_plan [] [(0, 0), (1, 1), (2, 0), (3, 0)] (fun w' : World => w'.cell? ⟨W5.heap.size + 1, 0, none⟩ = some (.int .i64 (roomF (orA G.on G.off) (32 - (m3 : Int)) l1).2)) (by kernel_rfl) (by kernel_rfl) (fun d v c a w h => by first | (cases d <;> exact h) | exact HP d v c a w h) ?_
      repeat ((first | refine plan_skip rfl rfl ?_ | refine plan_pass2 rfl rfl ?_ | refine plan_pass3 rfl rfl ?_ | (refine plan_take (v := ?_) rfl rfl ?_ ?_; rotate_left; focus (intro w0; go_simp; try with_reducible rfl)) | (refine plan_held (v := ?_) rfl rfl hS8 ?_ ?_; rotate_left; focus (intro w0 hSw; (try dsimp only at hSw); go_split_ands; go_simp; try with_reducible rfl)) | refine plan_skip1 rfl rfl hS8 ?_); simp only [nA, nB, nC, Act.put, nD, nE, nF])
      refine plan_nil ?_
      go_wp2
      go_ret2
      exact ⟨b8, m8, d8, by rw [HRS.out]; rfl, by rw [HRS.out]; exact HR8.out, HM8.out.drew⟩
def stG (G : Gs) (k : Int) (l : List Ad) : St := appl G.ex G.on G.off k (roomG G k l).1
def recG (G : Gs) (M k : Int) (l : List Ad) : Gs × Int :=
  ({ G with ex := (stG G k l).ex, on := (stG G k l).on, off := (stG G k l).off, T := onT (setT (setT G.T (stG G k l).full (G.now + M)) (stG G k l).rest G.till) (stG G k l).on, till := if (stG G k l).grp then G.now + M else G.till }, (roomG G k l).2)
def hearG (G : Gs) (now M older k : Int) (l : List Ad) : Gs × Int :=
  if (cutG (hearsG (settleG G now) M older).v6 (modeV (hearsG (settleG G now) M older).v6 (hearsG (settleG G now) M older).now (hearsG (settleG G now) M older).one (hearsG (settleG G now) M older).two) k l).1 = false then (hearsG (settleG G now) M older, 0)
  else recG (hearsG (settleG G now) M older) M (cutG (hearsG (settleG G now) M older).v6 (modeV (hearsG (settleG G now) M older).v6 (hearsG (settleG G now) M older).now (hearsG (settleG G now) M older).one (hearsG (settleG G now) M older).two) k l).2.1 (cutG (hearsG (settleG G now) M older).v6 (modeV (hearsG (settleG G now) M older).v6 (hearsG (settleG G now) M older).now (hearsG (settleG G now) M older).one (hearsG (settleG G now) M older).two) k l).2.2
theorem hearsG_same (G : Gs) (M older : Int) : (hearsG G M older).v6 = G.v6 ∧ (hearsG G M older).now = G.now ∧ (hearsG G M older).ex = G.ex ∧ (hearsG G M older).on = G.on ∧ (hearsG G M older).off = G.off ∧ (hearsG G M older).till = G.till ∧ (hearsG G M older).T = G.T := by
  unfold hearsG
  split
  · simp
  · split <;> simp
theorem filt_len (l : List Ad) (q : Ad → Bool) : (l.filter q).length + (l.filter fun a => !q a).length = l.length := by
  induction l with
  | nil => rfl
  | cons a l ih => cases h : q a <;> simp [h] <;> omega
theorem GOk.settle {G : Gs} (h : GOk G) (n : Int) : GOk (settleG G n) := by
  have h0 := h.now0
  have h1 := h.now1
  refine ⟨h.on.filter _, ?_, ?_, ?_, ?_, fun a ha => ?_, fun a t ht => ?_, h.till⟩
  · unfold settleG
    simp only
    split
    · exact AS.nil
    · split
      · exact orA_as h.off (h.on.filter _)
      · exact h.off
  · have e1 := filt_len G.on fun a => dueB G.T (nowG G n) a
    have e2 := orA_len G.off (G.on.filter fun a => dueB G.T (nowG G n) a)
    have := h.len
    unfold settleG
    simp only
    split
    · simp; omega
    · split <;> omega
  · show 0 ≤ nowG G n
    unfold nowG; omega
  · show nowG G n ≤ 1000000000000
    unfold nowG; omega
  · have ha' : updn G.T (nowG G n) a ≠ none := ha
    show a ∈ G.on.filter _
    unfold updn at ha'
    cases hT : G.T a with
    | none => rw [hT] at ha'; exact absurd rfl ha'
    | some t =>
      rw [hT] at ha'
      refine List.mem_filter.2 ⟨h.dom a (by rw [hT]; simp), ?_⟩
      unfold dueB
      rw [hT]
      by_cases hle : t ≤ nowG G n
      · simp [hle] at ha'
      · simp [hle]
  · have ht' : updn G.T (nowG G n) a = some t := ht
    unfold updn at ht'
    cases hT : G.T a with
    | none => rw [hT] at ht'; cases ht'
    | some u =>
      rw [hT] at ht'
      have := h.tb a u hT
      by_cases hle : u ≤ nowG G n
      · simp [hle] at ht'
      · simp [hle] at ht'; omega
theorem GOk.hears {G : Gs} (h : GOk G) (M older : Int) : GOk (hearsG G M older) := by
  obtain ⟨e1, e2, e3, e4, e5, e6, e7⟩ := hearsG_same G M older
  exact ⟨by rw [e4]; exact h.on, by rw [e5]; exact h.off, by rw [e4, e5]; exact h.len, by rw [e2]; exact h.now0, by rw [e2]; exact h.now1, by rw [e7, e4]; exact h.dom, by rw [e7]; exact h.tb, by rw [e6]; exact h.till⟩
theorem incl_as {a b : List Ad} (ha : AS a) (hb : AS b) (k : Int) : AS (incl a k b).on ∧ AS (incl a k b).off ∧ AS (incl a k b).full ∧ AS (incl a k b).rest ∧ (incl a k b).on.length + (incl a k b).off.length ≤ a.length + b.length ∧ (incl a k b).full.length ≤ b.length ∧ (incl a k b).rest.length ≤ b.length := by
  unfold incl
  split
  · exact ⟨orA_as ha hb, AS.nil, hb, AS.nil, by have := orA_len a b; simp; omega, Nat.le_refl _, by simp⟩
  · split
    · exact ⟨andA_as ha hb, minA_as hb ha, AS.nil, AS.nil, by have := and_min_len _ a b (Nat.le_refl _); simp; omega, by simp, by simp⟩
    · exact ⟨ha, AS.nil, AS.nil, AS.nil, by simp, by simp, by simp⟩
theorem excl_as {x y b : List Ad} (hx : AS x) (hy : AS y) (hb : AS b) (k : Int) : AS (excl x y k b).on ∧ AS (excl x y k b).off ∧ AS (excl x y k b).full ∧ AS (excl x y k b).rest ∧ (excl x y k b).on.length + (excl x y k b).off.length ≤ x.length + y.length + b.length ∧ (excl x y k b).full.length ≤ b.length ∧ (excl x y k b).rest.length ≤ b.length := by
  have m1 := minA_as (minA_as hb hx) hy
  have l1 : (minA (minA b x) y).length ≤ b.length := Nat.le_trans (minA_len _ _) (minA_len _ _)
  have l2 := minA_len b y
  have l3 := (andA_len y b).1
  have l4 := orA_len x b
  have l5 := minA_len y b
  have l6 := orA_len x (minA b y)
  unfold excl
  split
  · exact ⟨orA_as hx hb, minA_as hy hb, hb, AS.nil, by simp; omega, Nat.le_refl _, by simp⟩
  · split
    · exact ⟨minA_as hb hy, andA_as hy hb, m1, AS.nil, by simp; omega, l1, by simp⟩
    · split
      · exact ⟨minA_as hb hy, andA_as hy hb, AS.nil, m1, by simp; omega, by simp, l1⟩
      · split
        · exact ⟨orA_as hx (minA_as hb hy), hy, AS.nil, m1, by simp; omega, by simp, l1⟩
        · exact ⟨hx, hy, AS.nil, AS.nil, by show x.length + y.length ≤ _; omega, by simp, by simp⟩
theorem appl_as {on off : List Ad} (h1 : AS on) (h2 : AS off) (ex : Bool) (k : Int) (l : List Ad) : AS (appl ex on off k l).on ∧ AS (appl ex on off k l).off ∧ AS (appl ex on off k l).full ∧ AS (appl ex on off k l).rest ∧ (appl ex on off k l).on.length + (appl ex on off k l).off.length ≤ on.length + off.length + l.length ∧ (appl ex on off k l).full.length ≤ l.length ∧ (appl ex on off k l).rest.length ≤ l.length := by
  have h3 := ofA_as l
  have h4 := ofA_len l
  unfold appl
  split
  · obtain ⟨a, b, c, d, e, f, g⟩ := excl_as h1 h2 h3 k
    exact ⟨a, b, c, d, by omega, by omega, by omega⟩
  · obtain ⟨a, b, c, d, e, f, g⟩ := incl_as h1 h3 k
    exact ⟨a, b, c, d, by omega, by omega, by omega⟩
theorem roomG_len (G : Gs) (k : Int) (l : List Ad) : (roomG G k l).1.length ≤ l.length := by
  have h1 := ofA_len l
  have h2 := List.length_filter_le (fun a : Ad => a.v == G.v6) (ofA l)
  unfold roomG
  split
  · simp only; omega
  · have := roomF_len (orA G.on G.off) ((ofA l).filter fun a => a.v == G.v6) (32 - (orA G.on G.off).length)
    omega
theorem cutG_len (v6 : Bool) (mode k : Int) (l : List Ad) : (cutG v6 mode k l).2.2.length ≤ l.length := by
  unfold cutG
  split
  · exact Nat.le_refl _
  · split
    · simp
    · split
      · simp
      · exact Nat.le_refl _
theorem GIn.notA {w : World} {p c b : Nat} {G : Gs} {a1 : Option Addr} {n1 k1 : Nat} {a2 : Option Addr} {n2 k2 : Nat} {L : List (Ad × Int)} (h : GIn w p c b G a1 n1 k1 a2 n2 k2 L) : NotA w (fun k => k = p ∨ k = b) := fun k hk cur z e => by
  rcases hk with rfl | rfl
  · exact h.blk.notA (by decide) _ rfl cur z e
  · obtain ⟨es, ck, hb, _⟩ := h.clk.mp
    rw [hb] at e
    cases e
theorem GIn.notAb {w : World} {p c b : Nat} {G : Gs} {a1 : Option Addr} {n1 k1 : Nat} {a2 : Option Addr} {n2 k2 : Nat} {L : List (Ad × Int)} (h : GIn w p c b G a1 n1 k1 a2 n2 k2 L) : NotA w (fun k => k = b) := fun k hk => h.notA k (.inr hk)
def RetH2 (ex : Bool) (n1 : Nat) (lost : Int) (e : Ending) : Prop := ∃ (a1 : Option Addr) (c1 : Nat) (a2 : Option Addr) (n2 c2 : Nat) (a3 : Option Addr) (n3 c3 : Nat) (a4 : Option Addr) (n4 c4 : Nat) (x2 : Bool) (a6 : Option Addr) (n6 c6 : Nat) (x3 : Bool), e = .returned (.tuple #[.agg #[.bool ex, .slice a1 n1 c1, .slice a2 n2 c2, .slice a3 n3 c3, .slice a4 n4 c4, .bool x2, .slice a6 n6 c6, .bool x3], .int .i64 lost])
set_option maxRecDepth 100000 in
set_option maxHeartbeats 4000000 in
theorem gHear2 {N : Nat} (SO : SortOk N) {w : World} {p c b : Nat} {G : Gs} {a1 : Option Addr} {n1 k1 : Nat} {a2 : Option Addr} {n2 k2 : Nat} {L : List (Ad × Int)} (h : GIn w p c b G a1 n1 k1 a2 n2 k2 L) (ok : GOk G) (now : Int) (hN : (dueL (nowG G now) L).length ≤ N) (t : Tn) (ht : t.ok) (older k : Int) (g : Ad) {ad : Option Addr} {n cap : Nat} {l : List Ad} (hl : RT w (.slice ad n cap) l) (hll : l.length ≤ 100) (hsum : G.on.length + G.off.length ≤ 300) :
    Calls Tryz.prog 9 #[.pointer (some ⟨p, 0, none⟩), .int .i64 now, .agg t.c.toArray, .int .i64 older, .agg (recC k g (.slice ad n cap)).toArray] w fun e w' => RetH2 (hearG G now t.member older k l).1.ex (hearG G now t.member older k l).1.on.length (hearG G now t.member older k l).2 e ∧ GAt w' p c b (hearG G now t.member older k l).1 ∧ Mod (fun k => k = p ∨ k = b) w w' := by
  obtain ⟨RES, hRES⟩ : ∃ RES, RES = hearG G now t.member older k l := ⟨_, rfl⟩
  rw [← hRES]
  have HRES := Lib.hid hRES
  have hm0 : Mod (fun _ => False) w (((w.alloc (.cells t.c.toArray 32 (0, 0))).alloc (.cells (recC k g (.slice ad n cap)).toArray 38 (0, 0))).alloc (.cells #[.bool false, .slice none 0 0, .slice none 0 0, .slice none 0 0, .slice none 0 0, .bool false, .slice none 0 0, .bool false] 28 (0, 0))) := (((Mod.refl _ _).alloc _).alloc _).alloc _
  have hbt : Blk (((w.alloc (.cells t.c.toArray 32 (0, 0))).alloc (.cells (recC k g (.slice ad n cap)).toArray 38 (0, 0))).alloc (.cells #[.bool false, .slice none 0 0, .slice none 0 0, .slice none 0 0, .slice none 0 0, .bool false, .slice none 0 0, .bool false] 28 (0, 0))) w.heap.size 32 t.c := ((Blk.new w _ _).alloc _).alloc _
  have hbr : Blk (((w.alloc (.cells t.c.toArray 32 (0, 0))).alloc (.cells (recC k g (.slice ad n cap)).toArray 38 (0, 0))).alloc (.cells #[.bool false, .slice none 0 0, .slice none 0 0, .slice none 0 0, .slice none 0 0, .bool false, .slice none 0 0, .bool false] 28 (0, 0))) (w.heap.size + 1) 38 (recC k g (.slice ad n cap)) := by
    have := (Blk.new (w.alloc (.cells t.c.toArray 32 (0, 0))) 38 (recC k g (.slice ad n cap))).alloc (.cells #[.bool false, .slice none 0 0, .slice none 0 0, .slice none 0 0, .slice none 0 0, .bool false, .slice none 0 0, .bool false] 28 (0, 0))
    rwa [show (w.alloc (.cells t.c.toArray 32 (0, 0))).heap.size = w.heap.size + 1 by simp] at this
  have hbs : Blk (((w.alloc (.cells t.c.toArray 32 (0, 0))).alloc (.cells (recC k g (.slice ad n cap)).toArray 38 (0, 0))).alloc (.cells #[.bool false, .slice none 0 0, .slice none 0 0, .slice none 0 0, .slice none 0 0, .bool false, .slice none 0 0, .bool false] 28 (0, 0))) (w.heap.size + 2) 28 [.bool false, .slice none 0 0, .slice none 0 0, .slice none 0 0, .slice none 0 0, .bool false, .slice none 0 0, .bool false] := by
    have := Blk.new ((w.alloc (.cells t.c.toArray 32 (0, 0))).alloc (.cells (recC k g (.slice ad n cap)).toArray 38 (0, 0))) 28 [.bool false, .slice none 0 0, .slice none 0 0, .slice none 0 0, .slice none 0 0, .bool false, .slice none 0 0, .bool false]
    rwa [show ((w.alloc (.cells t.c.toArray 32 (0, 0))).alloc (.cells (recC k g (.slice ad n cap)).toArray 38 (0, 0))).heap.size = w.heap.size + 2 by simp] at this
  have HI0 := Lib.hid (h.keep0 hm0)
  have HT0 := Lib.hid hbt
  have HR0 := Lib.hid hbr
  have HS0 := Lib.hid hbs
  have HL0 := Lib.hid (hl.keep0 hm0)
  have HM0 : Hid (Mod (fun k => k = p ∨ k = b) w (((w.alloc (.cells t.c.toArray 32 (0, 0))).alloc (.cells (recC k g (.slice ad n cap)).toArray 38 (0, 0))).alloc (.cells #[.bool false, .slice none 0 0, .slice none 0 0, .slice none 0 0, .slice none 0 0, .bool false, .slice none 0 0, .bool false] 28 (0, 0)))) := Lib.hid hm0.no
  have OK := Lib.hid ok
  have HN := Lib.hid hN
  have HSO := Lib.hid SO
  have HTO := Lib.hid ht
  have HNE := Lib.hid h.ne
  have hpl := h.blk.lt
  have hbl := h.clk.mp.lt
  clear h hl hm0 hbt hbr hbs hRES ok hN SO ht
  go_enter Tryz.func9, Tryz.ntmps9
  go_wp2_with fail
  refine (gsettle HSO.out HI0.out OK.out now HN.out).mono ?_
  rintro e W1 ⟨rfl, ⟨b1, m1, d1, b2, m2, d2, L1, hg1⟩, hm1⟩
  have HI1 := Lib.hid hg1
  have HT1 := Lib.hid (HT0.out.keep hm1 fun e => by omega)
  have HR1 := Lib.hid (HR0.out.keep hm1 fun e => by omega)
  have HS1 := Lib.hid (HS0.out.keep hm1 fun e => by omega)
  have HL1 := Lib.hid (HL0.out.keepT hm1 HI0.out.notA)
  have HM1 : Hid (Mod (fun k => k = p ∨ k = b) w W1) := Lib.hid (HM0.out.trans hm1 fun k hk => .inl hk)
  have OK1 := Lib.hid (OK.out.settle now)
  clear hg1 hm1 HI0 HT0 HR0 HS0 HL0 HM0
  have hsl : (settleG G now).on.length + (settleG G now).off.length ≤ 300 := by
    have e1 := filt_len G.on fun a => dueB G.T (nowG G now) a
    have e2 := orA_len G.off (G.on.filter fun a => dueB G.T (nowG G now) a)
    unfold settleG
    simp only
    split
    · simp; omega
    · split <;> omega
  obtain ⟨G1, hG1⟩ : ∃ G1, G1 = settleG G now := ⟨_, rfl⟩
  rw [← hG1] at HI1 OK1 hsl
  have HG1 := Lib.hid hG1
  clear hG1
  go_wp2_with (refine wpList_load_blk rfl _ _ rfl w.heap.size 0 rfl 32 t.c t.c _ HT1.out rfl Tryz.underlying32 rfl tuSz ?_)
  refine (ghears HI1.out t HTO.out older ⟨OK1.out.now0, OK1.out.now1⟩).mono ?_
  rintro e W2 ⟨rfl, hg2, hm2⟩
  have HI2 := Lib.hid hg2
  have HT2 := Lib.hid (HT1.out.keep hm2 fun e => by omega)
  have HR2 := Lib.hid (HR1.out.keep hm2 fun e => by omega)
  have HS2 := Lib.hid (HS1.out.keep hm2 fun e => by omega)
  have HL2 := Lib.hid (HL1.out.keepT hm2 fun k hk => HI1.out.notA k (.inl hk))
  have HM2 : Hid (Mod (fun k => k = p ∨ k = b) w W2) := Lib.hid (HM1.out.trans hm2 fun k hk => .inl (.inl hk))
  have OK2 := Lib.hid (OK1.out.hears t.member older)
  have hs2 : (hearsG G1 t.member older).on.length + (hearsG G1 t.member older).off.length ≤ 300 := by
    obtain ⟨_, _, _, e4, e5, _⟩ := hearsG_same G1 t.member older
    rw [e4, e5]; exact hsl
  clear hg2 hm2 HI1 HT1 HR1 HS1 HL1 HM1 OK1 hsl
  obtain ⟨G2, hG2⟩ : ∃ G2, G2 = hearsG G1 t.member older := ⟨_, rfl⟩
  rw [← hG2] at HI2 OK2 hs2
  have HG2 := Lib.hid hG2
  clear hG2
  obtain ⟨MO, hMO⟩ : ∃ MO, MO = modeV G2.v6 G2.now G2.one G2.two := ⟨_, rfl⟩
  have HMO := Lib.hid hMO
  have hmo3 : MO = 1 ∨ MO = 2 ∨ MO = 3 := hMO ▸ modeV_in _ _ _ _
  have HMO3 := Lib.hid hmo3
  have HRE : Hid (RES = if (cutG G2.v6 MO k l).1 = false then (G2, 0) else recG G2 t.member (cutG G2.v6 MO k l).2.1 (cutG G2.v6 MO k l).2.2) := Lib.hid (by rw [HRES.out, hMO, HG2.out, HG1.out]; rfl)
  clear hMO hmo3
  have HRZ : Hid (∀ k g v, (Tryz.prog.info? 38).map (·.size) = some (recC k g v).length) := Lib.hid fun k g v => recC_sz k g v
  have hS : W2.drew.cell? ⟨p, 0, none⟩ = some (.bool G2.v6) ∧ Blk W2.drew (w.heap.size + 1) 38 (recC k g (.slice ad n cap)) := ⟨HI2.out.blk.cell rfl, HR2.out⟩
  go_wp2_with fail
  refine wp_region_plan [7, 11] [(0, 0), (1, 0), (2, 0), (3, 1), (4, 0), (6, 1), (5, 2), (7, 3), (8, 0), (9, 0), (10, 0), (11, 3), (12, 0)] (fun w' : World => w'.cell? ⟨p, 0, none⟩ = some (.bool G2.v6) ∧ Blk w' (w.heap.size + 1) 38 (recC k g (.slice ad n cap))) (by kernel_rfl) (by kernel_rfl) (fun d v c a w h => by first | (cases d <;> exact h) | exact HP d v c a w h) ?_
  repeat ((first | refine plan_skip rfl rfl ?_ | refine plan_pass2 rfl rfl ?_ | refine plan_pass3 rfl rfl ?_ | (refine plan_take (v := ?_) rfl rfl ?_ ?_; rotate_left; focus (intro w0; go_simp; try with_reducible rfl)) | (refine plan_held (v := ?_) rfl rfl hS ?_ ?_; rotate_left; focus (intro w0 hSw; (try dsimp only at hSw); go_split_ands; go_simp; try with_reducible rfl)) | refine plan_skip1 rfl rfl hS ?_); simp only [nA, nB, nC, Act.put, nD, nE, nF])
  (refine plan_held (v := .agg (recC k g (.slice ad n cap)).toArray) rfl rfl hS (fun w0 h0 => exec_load_blk _ _ rfl (w.heap.size + 1) 0 rfl 38 (recC k g (.slice ad n cap)) (recC k g (.slice ad n cap)) _ w0 h0.2 (List.take_of_length_le (Nat.le_refl _)) Tryz.underlying38 rfl (HRZ.out _ _ _)) ?_; try simp only [nA, nB, nC, Act.put, nD, nE, nF])
  (refine plan_do rfl rfl fun K hK => ?_; try simp only [nA, nB, nC])
  go_simp
  refine (gmode (w := W2.drew) (HI2.out.keep0 (Mod.refl _ W2).drew)).mono ?_
  rintro e W3 ⟨rfl, hm3⟩
  rw [← HMO.out]
  have hm23 : Mod (fun _ => False) W2 W3 := (Mod.refl _ W2).drew.trans hm3 fun _ f => f.elim
  have HI3 := Lib.hid (HI2.out.keep0 hm23)
  have HT3 := Lib.hid (HT2.out.keep hm23 fun f => f)
  have HR3 := Lib.hid (HR2.out.keep hm23 fun f => f)
  have HS3 := Lib.hid (HS2.out.keep hm23 fun f => f)
  have HL3 := Lib.hid (HL2.out.keep0 hm23)
  have HM3 : Hid (Mod (fun k => k = p ∨ k = b) w W3) := Lib.hid (HM2.out.trans hm23 fun _ f => f.elim)
  refine hK _ _ ⟨hm3.cell (fun f => f) hS.1, Blk.keep hS.2 hm3 fun f => f⟩ ?_
  clear hK K hm3 hm23 hS HI2 HT2 HR2 HS2 HL2 HM2
  try simp only [nA, nB, nC, Act.put, nD, nE, nF]
  (refine plan_end rfl rfl rfl fun K hK => ?_; (try simp only [nA, nB, nC]))
  go_simp
  refine (Cut_s G2.v6 MO k HMO3.out g HL3.out.rd (by omega)).mono ?_
  obtain ⟨X, hX⟩ : ∃ X, X = cutG G2.v6 MO k l := ⟨_, rfl⟩
  rw [← hX]
  have HXL : Hid (X.2.2.length ≤ 100) := Lib.hid (by rw [hX]; exact Nat.le_trans (cutG_len _ _ _ _) hll)
  have HRE2 : Hid (RES = if X.1 = false then (G2, 0) else recG G2 t.member X.2.1 X.2.2) := Lib.hid (by rw [hX]; exact HRE.out)
  obtain ⟨xok, xk, xl⟩ := X
  clear hX
  rintro e W4 ⟨g4, a4, n4, c4, rfl, hr4, hm4⟩
  simp only at HXL HRE2 hr4
  have HI4 := Lib.hid (HI3.out.keep0 hm4)
  have HT4 := Lib.hid (HT3.out.keep hm4 fun f => f)
  have HR4 := Lib.hid (HR3.out.keep hm4 fun f => f)
  have HS4 := Lib.hid (HS3.out.keep hm4 fun f => f)
  have HX4 := Lib.hid hr4
  have HM4 : Hid (Mod (fun k => k = p ∨ k = b) w W4) := Lib.hid (HM3.out.trans hm4 fun _ f => f.elim)
  refine hK _ _ ?_
  clear hK K hr4 hm4 HI3 HT3 HR3 HS3 HL3 HM3
  try simp only [nA, nB, nC, Act.put, nD, nE, nF]
  repeat ((first | refine plan_skip rfl rfl ?_ | refine plan_pass2 rfl rfl ?_ | refine plan_pass3 rfl rfl ?_ | (refine plan_take (v := ?_) rfl rfl ?_ ?_; rotate_left; focus (intro w0; go_simp; try with_reducible rfl))); simp only [nA, nB, nC, Act.put, nD, nE, nF])
  (refine plan_end rfl rfl rfl fun K hK => ?_; (try simp only [nA, nB, nC]))
  refine wp_store_blk 38 _ _ rfl (w.heap.size + 1) 0 38 _ (recC xk g4 (.slice a4 n4 c4)) rfl rfl HR4.out (by rw [recC_len, recC_len]; omega) (recC_sz _ _ _) (recC_one _ _ _ rfl) ?_
  intro W5 HB5 HM5'
  have HR5 := Lib.hid (splice_all HB5.out (by rw [recC_len, recC_len]))
  have HI5 : Hid (GIn W5 p c b G2 b1 m1 d1 b2 m2 d2 L1) := Lib.hid ⟨HI4.out.blk.keep HM5'.out fun e => by omega, HI4.out.on.keepT HM5'.out (HR4.out.notA (by decide)), HI4.out.off.keepT HM5'.out (HR4.out.notA (by decide)), HI4.out.clk.keep HM5'.out (fun e => by have h1 := HI4.out.clk.blk.neT HR4.out (by decide); exact h1 e) fun e => by omega⟩
  have HT5 := Lib.hid (HT4.out.keep HM5'.out fun e => by omega)
  have HS5 := Lib.hid (HS4.out.keep HM5'.out fun e => by omega)
  have HX5 := Lib.hid (HX4.out.keepT HM5'.out (HR4.out.notA (by decide)))
  have HM5 : Hid (Mod (fun k => k = p ∨ k = b) w W5) := Lib.hid (HM4.out.trans HM5'.out fun q hq => .inr (by omega))
  refine hK _ _ ?_
  clear hK K HB5 HM5' HI4 HT4 HR4 HS4 HX4 HM4
  try simp only [nA, nB, nC, Act.put, nD, nE, nF]
  repeat ((first | refine plan_skip rfl rfl ?_ | refine plan_pass2 rfl rfl ?_ | refine plan_pass3 rfl rfl ?_ | (refine plan_take (v := ?_) rfl rfl ?_ ?_; rotate_left; focus (intro w0; go_simp; try with_reducible rfl))); simp only [nA, nB, nC, Act.put, nD, nE, nF])
  refine plan_nil ?_
  cases xok with
  | false =>
    have HF : Hid (RES = (G2, 0)) := HRE2
    go_wp2_with (first
      | (refine wpList_load_blk rfl _ _ rfl p 2 rfl 90 _ [.bool G2.ex, .slice b1 m1 d1, .slice b2 m2 d2] _ HI5.out.blk rfl Tryz.underlying26 rfl stSz ?_)
      | (go_at_call 45; refine (gown_s G2.ex HI5.out.on HI5.out.off (by omega) (by omega)).mono ?_; rintro e W6 ⟨f1, g1, i1, f2, g2, i2, rfl, q1, q2, qm⟩; have HF1 : Hid (g1 = G2.on.length) := Lib.hid q1.len.1; have HI6 := Lib.hid (HI5.out.keep0 qm); have HS6 := Lib.hid (HS5.out.keep qm fun f => f); have HM6 : Hid (Mod (fun k => k = p ∨ k = b) w W6) := Lib.hid (HM5.out.trans qm fun _ f => f.elim); clear q1 q2 qm)
      | (refine wpList_store_blk rfl _ _ _ rfl (w.heap.size + 2) 0 28 [.bool false, .slice none 0 0, .slice none 0 0, .slice none 0 0, .slice none 0 0, .bool false, .slice none 0 0, .bool false] [.bool G2.ex, .slice f1 g1 i1, .slice f2 g2 i2, .slice none 0 0, .slice none 0 0, .bool false, .slice none 0 0, .bool false] rfl rfl HS6.out (by simp) spSz (by simp [Value.oneCell']) ?_; intro W7 HB7 HX7))
    refine bodyPost_ret (results_blk_tmp rfl _ (w.heap.size + 2) 28 [.bool G2.ex, .slice f1 g1 i1, .slice f2 g2 i2, .slice none 0 0, .slice none 0 0, .bool false, .slice none 0 0, .bool false] rfl rfl (splice_all HB7.out rfl) Tryz.underlying28 rfl spSz) rfl ?_
    rw [HF.out]
    show RetH2 G2.ex G2.on.length 0 _ ∧ _
    refine ⟨(by rw [← HF1.out]; exact ⟨_, _, _, _, _, _, _, _, _, _, _, _, _, _, _, _, rfl⟩), ⟨b1, m1, d1, b2, m2, d2, L1, ?_⟩, HM6.out.trans HX7.out fun q hq => .inr (by omega)⟩
    exact ⟨HI6.out.blk.keep HX7.out fun e => by omega, HI6.out.on.keepT HX7.out (HS6.out.notA (by decide)), HI6.out.off.keepT HX7.out (HS6.out.notA (by decide)), HI6.out.clk.keep HX7.out (fun e => by have h1 := HI6.out.clk.blk.neT HS6.out (by decide); exact h1 e) fun e => by omega⟩
  | true =>
    have HF : Hid (RES = recG G2 t.member xk xl) := HRE2
    go_wp2_with (refine wpList_load_blk rfl _ _ rfl (w.heap.size + 1) 0 rfl 38 _ (recC xk g4 (.slice a4 n4 c4)) _ HR5.out (List.take_of_length_le (Nat.le_refl _)) Tryz.underlying38 rfl (HRZ.out _ _ _) ?_)
    refine (groom HI5.out OK2.out.on OK2.out.off (by omega) (by omega) xk g4 HX5.out (by have := HXL.out; omega)).mono ?_
    rintro e W6 ⟨a6, n6, c6, rfl, hr6, hm6⟩
    have HRR := Lib.hid hr6
    have HI6 := Lib.hid (HI5.out.keep0 hm6)
    have HT6 := Lib.hid (HT5.out.keep hm6 fun f => f)
    have HR6 := Lib.hid (HR5.out.keep hm6 fun f => f)
    have HS6 := Lib.hid (HS5.out.keep hm6 fun f => f)
    have HM6 : Hid (Mod (fun k => k = p ∨ k = b) w W6) := Lib.hid (HM5.out.trans hm6 fun _ f => f.elim)
    have HRL : Hid ((roomG G2 xk xl).1.length ≤ 100) := Lib.hid (Nat.le_trans (roomG_len _ _ _) HXL.out)
    have HAP := Lib.hid (appl_as OK2.out.on OK2.out.off G2.ex xk (roomG G2 xk xl).1)
    clear hr6 hm6 HI5 HT5 HR5 HS5 HX5 HM5
    obtain ⟨ST, hST⟩ : ∃ ST, ST = appl G2.ex G2.on G2.off xk (roomG G2 xk xl).1 := ⟨_, rfl⟩
    obtain ⟨LO, hLO⟩ : ∃ x, x = (roomG G2 xk xl).2 := ⟨_, rfl⟩
    have HF2 : Hid (RES = ({ G2 with ex := ST.ex, on := ST.on, off := ST.off, T := onT (setT (setT G2.T ST.full (G2.now + t.member)) ST.rest G2.till) ST.on, till := if ST.grp then G2.now + t.member else G2.till }, LO)) := Lib.hid (by rw [HF.out, hST, hLO]; rfl)
    have HA : Hid (AS ST.on ∧ AS ST.off ∧ AS ST.full ∧ AS ST.rest ∧ ST.on.length + ST.off.length ≤ 400 ∧ ST.full.length ≤ 100 ∧ ST.rest.length ≤ 100) := Lib.hid (by
      obtain ⟨q1, q2, q3, q4, q5, q6, q7⟩ := HAP.out
      have := HRL.out
      rw [hST]
      exact ⟨q1, q2, q3, q4, by omega, by omega, by omega⟩)
    rw [← hLO]
    have hln : ∀ (T : Ad → Option Int) (L' : List (Ad × Int)) (wz : World), (∀ a, T a ≠ none → a ∈ G2.on ++ ST.full ++ ST.rest) → ClkAt wz c b T L' → L'.length ≤ 3000 := fun T L' wz hd hk => by
      have h1 := hk.tl.len hd
      have h2 := OK2.out.len
      have h3 := HA.out.2.2.2.2
      simp only [List.length_append] at h1
      omega
    have HLN := Lib.hid hln
    clear hln
    have HST := Lib.hid hST
    have hnw : 0 ≤ G2.now ∧ G2.now ≤ 1000000000000 := ⟨OK2.out.now0, OK2.out.now1⟩
    have ew : IntKind.i64.wrap (G2.now + t.member) = G2.now + t.member := IntWalk.i64_in _ (by have := Tn.member_bd HTO.out; omega)
    clear hST hLO HAP hnw HF
    go_wp2_with fail
    have hS : Blk W6.drew p 90 (gC G2 (.slice b1 m1 d1) (.slice b2 m2 d2) c) ∧ W6.drew.cell? ⟨w.heap.size + 1, 0, none⟩ = some (.int .i64 xk) := ⟨HI6.out.blk, HR6.out.cell rfl⟩
    refine wp_region_T [9] (.c 0 0 (.c 1 0 (.c 2 0 (.c 3 1 (.c 4 0 (.c 5 1 (.c 6 0 (.f 7 8 (.c 8 2 (.c 9 3 .n)) (.c 7 2 (.c 9 3 .n)))))))))) (fun w' : World => Blk w' p 90 (gC G2 (.slice b1 m1 d1) (.slice b2 m2 d2) c) ∧ w'.cell? ⟨w.heap.size + 1, 0, none⟩ = some (.int .i64 xk)) (by kernel_rfl) (by kernel_rfl) (fun d _ _ _ _ h => by cases d <;> exact h) ?_
    repeat ((first | (refine T_take (v := ?_) rfl rfl ?_ ?_; rotate_left; focus (intro w0; go_simp; try with_reducible rfl))); simp only [nA, nB, nC, Act.put, nD, nE, nF])
    refine T_held (v := .agg #[.bool G2.ex, .slice b1 m1 d1, .slice b2 m2 d2]) rfl rfl hS (fun w0 h0 => exec_load_blk _ _ rfl p 2 rfl 90 (gC G2 (.slice b1 m1 d1) (.slice b2 m2 d2) c) [.bool G2.ex, .slice b1 m1 d1, .slice b2 m2 d2] _ w0 h0.1 rfl Tryz.underlying26 rfl stSz) ?_
    try simp only [nA, nB, nC, Act.put, nD, nE, nF]
    repeat ((first | (refine T_take (v := ?_) rfl rfl ?_ ?_; rotate_left; focus (intro w0; go_simp; try with_reducible rfl)) | (refine T_held (v := ?_) rfl rfl hS ?_ ?_; rotate_left; focus (intro w0 hSw; (try dsimp only at hSw); go_split_ands; go_simp; try with_reducible rfl))); simp only [nA, nB, nC, Act.put, nD, nE, nF])
    refine T_fork rfl rfl rfl rfl (fun K hK => ?fa91) (fun K hK => ?fb91)
    case' fa91 =>
      try simp only [nA, nB, nC]
      go_simp
      refine (Apply_s (w := W6.drew) HI6.out.on HI6.out.off (by omega) (by omega) HRR.out.rd (by have := HRL.out; omega) G2.ex xk).mono ?_
      rw [← HST.out]
      rintro e W7 ⟨e1, f1, g1, e2, f2, g2, e3, f3, g3, e5, f5, g5, e6, f6, g6, al, rfl, r1, r2, r3, r4, hm⟩
      have HF1 : Hid (f1 = ST.on.length) := Lib.hid r1.len.1
      refine hK _ _ ⟨Blk.keep hS.1 hm fun f => f, hm.cell (fun f => f) hS.2⟩ ?_
      clear hK K
      try simp only [nA, nB, nC, Act.put, nD, nE, nF]
      have hmA : Mod (fun _ => False) W6 W7 := (Mod.refl _ W6).drew.trans hm fun _ f => f.elim
      have q0 : Mod (fun _ => False) W7 (W7.alloc (.cells #[.bool false, .slice none 0 0, .slice none 0 0, .slice none 0 0, .slice none 0 0, .bool false, .slice none 0 0, .bool false] 28 (0, 0))) := (Mod.refl _ _).alloc _
      have R1 := Lib.hid (r1.keep0 q0)
      have R2 := Lib.hid (r2.keep0 q0)
      have R3 := Lib.hid (r3.keep0 q0)
      have R4 := Lib.hid (r4.keep0 q0)
      have HBX := Lib.hid (Blk.new W7 28 [.bool false, .slice none 0 0, .slice none 0 0, .slice none 0 0, .slice none 0 0, .bool false, .slice none 0 0, .bool false])
      have HMA : Hid (Mod (fun _ => False) W6 (W7.alloc (.cells #[.bool false, .slice none 0 0, .slice none 0 0, .slice none 0 0, .slice none 0 0, .bool false, .slice none 0 0, .bool false] 28 (0, 0)))) := Lib.hid (hmA.alloc _)
      have HPX : Hid (w.heap.size + 2 < W7.heap.size ∧ W6.heap.size ≤ W7.heap.size) := Lib.hid (by have h1 := hmA.size; have h2 := HS6.out.lt; omega)
      (refine T_do rfl rfl fun K hK => ?_; (try simp only [nA, nB, nC]))
      go_simp
      refine hK _ _ ⟨HI6.out.blk.keep HMA.out fun f => f, (HR6.out.keep HMA.out fun f => f).cell rfl⟩ ?_
      clear hK K r1 r2 r3 r4 hm hmA q0 hS
      try simp only [nA, nB, nC, Act.put, nD, nE, nF]
      (refine T_end rfl rfl rfl fun K hK => ?_; (try simp only [nA, nB, nC]))
      refine wp_store_blk 28 _ _ rfl W7.heap.size 0 28 [.bool false, .slice none 0 0, .slice none 0 0, .slice none 0 0, .slice none 0 0, .bool false, .slice none 0 0, .bool false] [.bool ST.ex, .slice e1 f1 g1, .slice e2 f2 g2, .slice e3 f3 g3, .slice e5 f5 g5, .bool ST.grp, .slice e6 f6 g6, .bool al] rfl rfl HBX.out (by simp) spSz (by simp [Value.oneCell']) ?_
      intro W8 HX8 HY8
      have HB8 := Lib.hid (splice_all HX8.out rfl)
      have HI6A := Lib.hid (HI6.out.keep0 HMA.out)
      have HP6 := HPX.out
      have HI8 : Hid (GIn W8 p c b G2 b1 m1 d1 b2 m2 d2 L1) := Lib.hid ⟨HI6A.out.blk.keep HY8.out fun e => by omega, HI6A.out.on.keepT HY8.out (HBX.out.notA (by decide)), HI6A.out.off.keepT HY8.out (HBX.out.notA (by decide)), HI6A.out.clk.keep HY8.out (fun e => by have h1 := HI6A.out.clk.blk.neT HBX.out (by decide); exact h1 e) fun e => by omega⟩
      have HT8 := Lib.hid ((HT6.out.keep HMA.out fun f => f).keep HY8.out fun e => by omega)
      have HS8 := Lib.hid ((HS6.out.keep HMA.out fun f => f).keep HY8.out fun e => by omega)
      have R18 := Lib.hid (R1.out.keepT HY8.out (HBX.out.notA (by decide)))
      have R28 := Lib.hid (R2.out.keepT HY8.out (HBX.out.notA (by decide)))
      have R38 := Lib.hid (R3.out.keepT HY8.out (HBX.out.notA (by decide)))
      have R48 := Lib.hid (R4.out.keepT HY8.out (HBX.out.notA (by decide)))
      have HM8 : Hid (Mod (fun k => k = p ∨ k = b) w W8) := Lib.hid ((HM6.out.trans HMA.out fun _ f => f.elim).trans HY8.out fun q hq => .inr (by omega))
      clear HP6
      refine hK _ _ ?_
      clear hK K HMA HBX HX8 HY8 HI6A R1 R2 R3 R4 HI6 HT6 HR6 HS6 HM6 HRR
      try simp only [nA, nB, nC, Act.put, nD, nE, nF]
      refine T_nil ?_
      obtain ⟨px, hpx⟩ : ∃ px, px = W7.heap.size := ⟨_, rfl⟩
      rw [← hpx] at HB8 HPX ⊢
      clear hpx
      have hpx := HPX.out
    case' fb91 =>
      try simp only [nA, nB, nC]
      go_simp
      have q0 : Mod (fun _ => False) W6 (W6.drew.alloc (.cells #[.bool false, .slice none 0 0, .slice none 0 0, .slice none 0 0, .slice none 0 0, .bool false, .slice none 0 0, .bool false] 28 (0, 0))) := (Mod.refl _ W6).drew.alloc _
      have hS1 : Blk (W6.drew.alloc (.cells #[.bool false, .slice none 0 0, .slice none 0 0, .slice none 0 0, .slice none 0 0, .bool false, .slice none 0 0, .bool false] 28 (0, 0))) p 90 (gC G2 (.slice b1 m1 d1) (.slice b2 m2 d2) c) ∧ (W6.drew.alloc (.cells #[.bool false, .slice none 0 0, .slice none 0 0, .slice none 0 0, .slice none 0 0, .bool false, .slice none 0 0, .bool false] 28 (0, 0))).cell? ⟨w.heap.size + 1, 0, none⟩ = some (.int .i64 xk) := ⟨HI6.out.blk.keep q0 fun f => f, (HR6.out.keep q0 fun f => f).cell rfl⟩
      have hbx : Blk (W6.drew.alloc (.cells #[.bool false, .slice none 0 0, .slice none 0 0, .slice none 0 0, .slice none 0 0, .bool false, .slice none 0 0, .bool false] 28 (0, 0))) W6.heap.size 28 [.bool false, .slice none 0 0, .slice none 0 0, .slice none 0 0, .slice none 0 0, .bool false, .slice none 0 0, .bool false] := Blk.new W6.drew _ _
      have HQ0 := Lib.hid q0
      have HBX0 := Lib.hid hbx
      refine hK _ _ hS1 ?_
      clear hK K hS q0 hbx
      try simp only [nA, nB, nC, Act.put, nD, nE, nF]
      (refine T_do rfl rfl fun K hK => ?_; (try simp only [nA, nB, nC]))
      go_simp
      refine (Apply_s (w := W6.drew.alloc (.cells #[.bool false, .slice none 0 0, .slice none 0 0, .slice none 0 0, .slice none 0 0, .bool false, .slice none 0 0, .bool false] 28 (0, 0))) (HI6.out.on.keep0 HQ0.out) (HI6.out.off.keep0 HQ0.out) (by omega) (by omega) (HRR.out.keep0 HQ0.out).rd (by have := HRL.out; omega) G2.ex xk).mono ?_
      rw [← HST.out]
      rintro e W7 ⟨e1, f1, g1, e2, f2, g2, e3, f3, g3, e5, f5, g5, e6, f6, g6, al, rfl, r1, r2, r3, r4, hm⟩
      have HF1 : Hid (f1 = ST.on.length) := Lib.hid r1.len.1
      refine hK _ _ ⟨Blk.keep hS1.1 hm fun f => f, hm.cell (fun f => f) hS1.2⟩ ?_
      clear hK K hS1
      try simp only [nA, nB, nC, Act.put, nD, nE, nF]
      have R1 := Lib.hid r1
      have R2 := Lib.hid r2
      have R3 := Lib.hid r3
      have R4 := Lib.hid r4
      have HBX := Lib.hid (HBX0.out.keep hm fun f => f)
      have HMA : Hid (Mod (fun _ => False) W6 W7) := Lib.hid (HQ0.out.trans hm fun _ f => f.elim)
      have HPX : Hid (w.heap.size + 2 < W6.heap.size ∧ W6.heap.size ≤ W6.heap.size) := Lib.hid (by have h2 := HS6.out.lt; omega)
      clear r1 r2 r3 r4 hm HQ0 HBX0
      (refine T_end rfl rfl rfl fun K hK => ?_; (try simp only [nA, nB, nC]))
      refine wp_store_blk 28 _ _ rfl W6.heap.size 0 28 [.bool false, .slice none 0 0, .slice none 0 0, .slice none 0 0, .slice none 0 0, .bool false, .slice none 0 0, .bool false] [.bool ST.ex, .slice e1 f1 g1, .slice e2 f2 g2, .slice e3 f3 g3, .slice e5 f5 g5, .bool ST.grp, .slice e6 f6 g6, .bool al] rfl rfl HBX.out (by simp) spSz (by simp [Value.oneCell']) ?_
      intro W8 HX8 HY8
      have HB8 := Lib.hid (splice_all HX8.out rfl)
      have HI6A := Lib.hid (HI6.out.keep0 HMA.out)
      have HP6 := HPX.out
      have HI8 : Hid (GIn W8 p c b G2 b1 m1 d1 b2 m2 d2 L1) := Lib.hid ⟨HI6A.out.blk.keep HY8.out fun e => by omega, HI6A.out.on.keepT HY8.out (HBX.out.notA (by decide)), HI6A.out.off.keepT HY8.out (HBX.out.notA (by decide)), HI6A.out.clk.keep HY8.out (fun e => by have h1 := HI6A.out.clk.blk.neT HBX.out (by decide); exact h1 e) fun e => by omega⟩
      have HT8 := Lib.hid ((HT6.out.keep HMA.out fun f => f).keep HY8.out fun e => by omega)
      have HS8 := Lib.hid ((HS6.out.keep HMA.out fun f => f).keep HY8.out fun e => by omega)
      have R18 := Lib.hid (R1.out.keepT HY8.out (HBX.out.notA (by decide)))
      have R28 := Lib.hid (R2.out.keepT HY8.out (HBX.out.notA (by decide)))
      have R38 := Lib.hid (R3.out.keepT HY8.out (HBX.out.notA (by decide)))
      have R48 := Lib.hid (R4.out.keepT HY8.out (HBX.out.notA (by decide)))
      have HM8 : Hid (Mod (fun k => k = p ∨ k = b) w W8) := Lib.hid ((HM6.out.trans HMA.out fun _ f => f.elim).trans HY8.out fun q hq => .inr (by omega))
      clear HP6
      refine hK _ _ ?_
      clear hK K HMA HBX HX8 HY8 HI6A R1 R2 R3 R4 HI6 HT6 HR6 HS6 HM6 HRR
      try simp only [nA, nB, nC, Act.put, nD, nE, nF]
      refine T_nil ?_
      obtain ⟨px, hpx⟩ : ∃ px, px = W6.heap.size := ⟨_, rfl⟩
      rw [← hpx] at HB8 HPX ⊢
      clear hpx
      have hpx := HPX.out
    all_goals
      go_wp2_with (first
        | (refine wpList_load_blk rfl _ _ rfl px 0 rfl 28 _ [.bool ST.ex, .slice e1 f1 g1, .slice e2 f2 g2] _ HB8.out rfl Tryz.underlying26 rfl stSz ?_)
        | (go_at_call 45; refine (gown_s ST.ex R18.out R28.out (by have := HA.out.2.2.2.2.1; omega) (by have := HA.out.2.2.2.2.1; omega)).mono ?_; rintro e W9 ⟨h1, i1, j1, h2, i2, j2, rfl, q1, q2, qm⟩; have Q1 := Lib.hid q1; have Q2 := Lib.hid q2; have HI9 := Lib.hid (HI8.out.keep0 qm); have HT9 := Lib.hid (HT8.out.keep qm fun f => f); have HS9 := Lib.hid (HS8.out.keep qm fun f => f); have HB9 := Lib.hid (HB8.out.keep qm fun f => f); have R39 := Lib.hid (R38.out.keep0 qm); have R49 := Lib.hid (R48.out.keep0 qm); have HM9 : Hid (Mod (fun k => k = p ∨ k = b) w W9) := Lib.hid (HM8.out.trans qm fun _ f => f.elim); clear q1 q2 qm HI8 HT8 HS8 HB8 HM8 R18 R28 R38 R48)
        | (refine wpList_store_blk rfl _ _ _ rfl p 2 90 _ [.bool ST.ex, .slice h1 i1 j1, .slice h2 i2 j2] rfl rfl HI9.out.blk (by simp [gC]) stSz (by simp [Value.oneCell']) ?_; intro W10 HX10 HY10))
      have HNP := Lib.hid (HI9.out.blk.notA (by decide))
      have HI10 : Hid (GIn W10 p c b { G2 with ex := ST.ex, on := ST.on, off := ST.off } h1 i1 j1 h2 i2 j2 L1) := Lib.hid ⟨HX10.out, Q1.out.keepT HY10.out HNP.out, Q2.out.keepT HY10.out HNP.out, HI9.out.clk.keep HY10.out (fun e => HNE.out.1 e.symm) fun e => HNE.out.2.1 e.symm⟩
      have HT10 := Lib.hid (HT9.out.keep HY10.out fun e => by omega)
      have HS10 := Lib.hid (HS9.out.keep HY10.out fun e => by omega)
      have HB10 := Lib.hid (HB9.out.keep HY10.out fun e => by omega)
      have R310 := Lib.hid (R39.out.keepT HY10.out HNP.out)
      have R410 := Lib.hid (R49.out.keepT HY10.out HNP.out)
      have HM10 : Hid (Mod (fun k => k = p ∨ k = b) w W10) := Lib.hid (HM9.out.trans HY10.out fun q hq => .inl (.inl hq))
      clear HX10 HY10 HNP Q1 Q2 HI9 HT9 HS9 HB9 HM9 R39 R49
      have hS11 : (W10.drew.cell? ⟨px, 3, none⟩ = some (.slice e3 f3 g3) ∧ W10.drew.cell? ⟨p, 1, none⟩ = some (.int .i64 G2.now)) ∧ Blk W10.drew w.heap.size 32 t.c := ⟨⟨HB10.out.cell rfl, HI10.out.blk.cell rfl⟩, HT10.out⟩
      refine wp_region_plan [] [(0, 0), (1, 0), (2, 1), (3, 0), (4, 0), (5, 0), (6, 1), (7, 1), (8, 2), (9, 0), (10, 2)] (fun w' : World => (w'.cell? ⟨px, 3, none⟩ = some (.slice e3 f3 g3) ∧ w'.cell? ⟨p, 1, none⟩ = some (.int .i64 G2.now)) ∧ Blk w' w.heap.size 32 t.c) (by kernel_rfl) (by kernel_rfl) (fun d v c a w h => by first | (cases d <;> exact h) | exact HP d v c a w h) ?_
      repeat ((first | refine plan_skip rfl rfl ?_ | refine plan_pass2 rfl rfl ?_ | refine plan_pass3 rfl rfl ?_ | (refine plan_take (v := ?_) rfl rfl ?_ ?_; rotate_left; focus (intro w0; go_simp; try with_reducible rfl)) | (refine plan_held (v := ?_) rfl rfl hS11 ?_ ?_; rotate_left; focus (intro w0 hSw; (try dsimp only at hSw); go_split_ands; go_simp; try with_reducible rfl)) | refine plan_skip1 rfl rfl hS11 ?_); simp only [nA, nB, nC, Act.put, nD, nE, nF])
      (refine plan_held (v := .agg t.c.toArray) rfl rfl hS11 (fun w0 h0 => exec_load_blk _ _ rfl w.heap.size 0 rfl 32 t.c t.c _ w0 h0.2 rfl Tryz.underlying32 rfl tuSz) ?_; try simp only [nA, nB, nC, Act.put, nD, nE, nF])
      (refine plan_do rfl rfl fun K hK => ?_; try simp only [nA, nB, nC])
      go_simp
      refine (Member_s t HTO.out _).mono ?_
      rintro e W11 ⟨rfl, hm⟩
      have hm11 : Mod (fun _ => False) W10 W11 := (Mod.refl _ W10).drew.trans hm fun _ f => f.elim
      have HI11 := Lib.hid (HI10.out.keep0 hm11)
      have HT11 := Lib.hid (HT10.out.keep hm11 fun f => f)
      have HS11 := Lib.hid (HS10.out.keep hm11 fun f => f)
      have HB11 := Lib.hid (HB10.out.keep hm11 fun f => f)
      have R311 := Lib.hid (R310.out.keep0 hm11)
      have R411 := Lib.hid (R410.out.keep0 hm11)
      have HM11 : Hid (Mod (fun k => k = p ∨ k = b) w W11) := Lib.hid (HM10.out.trans hm11 fun _ f => f.elim)
      refine hK _ _ ⟨⟨hm.cell (fun f => f) hS11.1.1, hm.cell (fun f => f) hS11.1.2⟩, Blk.keep hS11.2 hm fun f => f⟩ ?_
      clear hK K hm hm11 hS11 HI10 HT10 HS10 HB10 HM10 R310 R410
      try simp only [nA, nB, nC, Act.put, nD, nE, nF]
      have hS11 : (W11.cell? ⟨px, 3, none⟩ = some (.slice e3 f3 g3) ∧ W11.cell? ⟨p, 1, none⟩ = some (.int .i64 G2.now)) ∧ Blk W11 w.heap.size 32 t.c := ⟨⟨HB11.out.cell rfl, HI11.out.blk.cell rfl⟩, HT11.out⟩
      repeat ((first | refine plan_skip rfl rfl ?_ | refine plan_pass2 rfl rfl ?_ | refine plan_pass3 rfl rfl ?_ | (refine plan_take (v := ?_) rfl rfl ?_ ?_; rotate_left; focus (intro w0; go_simp; try with_reducible rfl)) | (refine plan_held (v := ?_) rfl rfl hS11 ?_ ?_; rotate_left; focus (intro w0 hSw; (try dsimp only at hSw); go_split_ands; go_simp; try with_reducible rfl)) | refine plan_skip1 rfl rfl hS11 ?_); simp only [nA, nB, nC, Act.put, nD, nE, nF])
      (refine plan_do rfl rfl fun K hK => ?_; try simp only [nA, nB, nC])
      go_simp
      refine (ghave HI11.out (G2.now + t.member) R311.out (fun a ha => HA.out.2.2.1.2 a ha) (by have := HA.out.2.2.2.2.2.1; omega)).mono ?_
      rintro e W12 ⟨rfl, ⟨L2, hg12⟩, hm12⟩
      have HI12 := Lib.hid hg12
      have HT12 := Lib.hid (HT11.out.keep hm12 fun e => by omega)
      have HS12 := Lib.hid (HS11.out.keep hm12 fun e => by omega)
      have HB12 := Lib.hid (HB11.out.keep hm12 fun e => by omega)
      have R412 := Lib.hid (R411.out.keepT hm12 HI11.out.notAb)
      have HM12 : Hid (Mod (fun k => k = p ∨ k = b) w W12) := Lib.hid (HM11.out.trans hm12 fun q hq => .inl (.inr hq))
      refine hK _ _ ⟨⟨HB12.out.cell rfl, HI12.out.blk.cell rfl⟩, HT12.out⟩ ?_
      clear hK K hg12 hm12 hS11 HI11 HT11 HS11 HB11 HM11 R311 R411
      try simp only [nA, nB, nC, Act.put, nD, nE, nF]
      repeat ((first | refine plan_skip rfl rfl ?_ | refine plan_pass2 rfl rfl ?_ | refine plan_pass3 rfl rfl ?_ | (refine plan_take (v := ?_) rfl rfl ?_ ?_; rotate_left; focus (intro w0; go_simp; try with_reducible rfl))); simp only [nA, nB, nC, Act.put, nD, nE, nF])
      refine plan_nil ?_
      have hS12 : W12.drew.cell? ⟨px, 4, none⟩ = some (.slice e5 f5 g5) ∧ W12.drew.cell? ⟨p, 5, none⟩ = some (.int .i64 G2.till) := ⟨HB12.out.cell rfl, HI12.out.blk.cell rfl⟩
      go_wp2_with fail
      refine wp_region_plan [7] [(0, 0), (1, 0), (2, 1), (3, 0), (4, 0), (5, 0), (6, 1), (7, 3)] (fun w' : World => w'.cell? ⟨px, 4, none⟩ = some (.slice e5 f5 g5) ∧ w'.cell? ⟨p, 5, none⟩ = some (.int .i64 G2.till)) (by kernel_rfl) (by kernel_rfl) (fun d v c a w h => by first | (cases d <;> exact h) | exact HP d v c a w h) ?_
      repeat ((first | refine plan_skip rfl rfl ?_ | refine plan_pass2 rfl rfl ?_ | refine plan_pass3 rfl rfl ?_ | (refine plan_take (v := ?_) rfl rfl ?_ ?_; rotate_left; focus (intro w0; go_simp; try with_reducible rfl)) | (refine plan_held (v := ?_) rfl rfl hS12 ?_ ?_; rotate_left; focus (intro w0 hSw; (try dsimp only at hSw); go_split_ands; go_simp; try with_reducible rfl)) | refine plan_skip1 rfl rfl hS12 ?_); simp only [nA, nB, nC, Act.put, nD, nE, nF])
      (refine plan_end rfl rfl rfl fun K hK => ?_; (try simp only [nA, nB, nC]))
      go_simp
      refine (ghave (w := W12.drew) (HI12.out.keep0 (Mod.refl _ W12).drew) G2.till R412.out (fun a ha => HA.out.2.2.2.1.2 a ha) (by have := HA.out.2.2.2.2.2.2; omega)).mono ?_
      rintro e W13 ⟨rfl, ⟨L3, hg13⟩, hm⟩
      have hm13 : Mod (fun k => k = b) W12 W13 := (Mod.refl _ W12).drew.trans hm fun q hq => .inl hq
      have HI13 : Hid (GIn W13 p c b { G2 with ex := ST.ex, on := ST.on, off := ST.off, T := (setT (setT G2.T ST.full (G2.now + t.member)) ST.rest G2.till) } h1 i1 j1 h2 i2 j2 L3) := Lib.hid hg13
      have HT13 := Lib.hid (HT12.out.keep hm13 fun e => by omega)
      have HS13 := Lib.hid (HS12.out.keep hm13 fun e => by omega)
      have HB13 := Lib.hid (HB12.out.keep hm13 fun e => by omega)
      have HM13 : Hid (Mod (fun k => k = p ∨ k = b) w W13) := Lib.hid (HM12.out.trans hm13 fun q hq => .inl (.inr hq))
      refine hK _ _ ?_
      clear hK K hg13 hm hm13 hS12 HI12 HT12 HS12 HB12 HM12 R412
      try simp only [nA, nB, nC, Act.put, nD, nE, nF]
      repeat ((first | refine plan_skip rfl rfl ?_ | refine plan_pass2 rfl rfl ?_ | refine plan_pass3 rfl rfl ?_ | (refine plan_take (v := ?_) rfl rfl ?_ ?_; rotate_left; focus (intro w0; go_simp; try with_reducible rfl))); simp only [nA, nB, nC, Act.put, nD, nE, nF])
      refine plan_nil ?_
      have HDM : Hid (∀ a, (setT (setT G2.T ST.full (G2.now + t.member)) ST.rest G2.till) a ≠ none → a ∈ G2.on ++ ST.full ++ ST.rest) := Lib.hid fun a ha => by
        unfold setT at ha
        by_cases q1 : a ∈ ST.rest
        · exact List.mem_append_right _ q1
        · rw [if_neg q1] at ha
          by_cases q2 : a ∈ ST.full
          · exact List.mem_append_left _ (List.mem_append_right _ q2)
          · rw [if_neg q2] at ha
            exact List.mem_append_left _ (List.mem_append_left _ (OK2.out.dom a ha))
      have x5 : W13.cell? ⟨px, 5, none⟩ = some (.bool ST.grp) := HB13.out.cell rfl
      cases hgr : ST.grp with
      | false =>
        rw [hgr] at x5 HB13
        have HF3 : Hid (RES = ({ G2 with ex := ST.ex, on := ST.on, off := ST.off, T := onT (setT (setT G2.T ST.full (G2.now + t.member)) ST.rest G2.till) ST.on, till := G2.till }, LO)) := Lib.hid (by rw [HF2.out, hgr]; rfl)
        clear hgr
        go_wp2_with (first
          | (go_at_call 50; refine (gclean HI13.out (show AS ST.on from HA.out.1) (show ST.on.length ≤ 2000 by have := HA.out.2.2.2.2.1; omega) (HLN.out _ _ _ HDM.out HI13.out.clk)).mono ?_; rintro e W20 ⟨rfl, ⟨L5, hg20⟩, hm20⟩; have HI20 := Lib.hid hg20; have HS20 := Lib.hid (HS13.out.keep hm20 fun e => by omega); have HB20 := Lib.hid (HB13.out.keep hm20 fun e => by omega); have HM20 : Hid (Mod (fun k => k = p ∨ k = b) w W20) := Lib.hid (HM13.out.trans hm20 fun q hq => .inl (.inr hq)); clear hg20 hm20)
          | (refine wpList_load_blk rfl _ _ rfl px 0 rfl 28 [.bool ST.ex, .slice e1 f1 g1, .slice e2 f2 g2, .slice e3 f3 g3, .slice e5 f5 g5, .bool false, .slice e6 f6 g6, .bool al] [.bool ST.ex, .slice e1 f1 g1, .slice e2 f2 g2, .slice e3 f3 g3, .slice e5 f5 g5, .bool false, .slice e6 f6 g6, .bool al] _ HB20.out rfl Tryz.underlying28 rfl spSz ?_)
          | (refine wpList_store_blk rfl _ _ _ rfl (w.heap.size + 2) 0 28 [.bool false, .slice none 0 0, .slice none 0 0, .slice none 0 0, .slice none 0 0, .bool false, .slice none 0 0, .bool false] [.bool ST.ex, .slice e1 f1 g1, .slice e2 f2 g2, .slice e3 f3 g3, .slice e5 f5 g5, .bool false, .slice e6 f6 g6, .bool al] rfl rfl HS20.out (by simp) spSz (by simp [Value.oneCell']) ?_; intro W21 HX21 HY21))
        refine bodyPost_ret (results_blk_tmp rfl _ (w.heap.size + 2) 28 [.bool ST.ex, .slice e1 f1 g1, .slice e2 f2 g2, .slice e3 f3 g3, .slice e5 f5 g5, .bool false, .slice e6 f6 g6, .bool al] rfl rfl (splice_all HX21.out rfl) Tryz.underlying28 rfl spSz) rfl ?_
        rw [HF3.out]
        show RetH2 ST.ex ST.on.length LO _ ∧ _
        refine ⟨(by rw [← HF1.out]; exact ⟨_, _, _, _, _, _, _, _, _, _, _, _, _, _, _, _, rfl⟩), ⟨h1, i1, j1, h2, i2, j2, L5, ?_⟩, HM20.out.trans HY21.out fun q hq => .inr (by omega)⟩
        exact ⟨HI20.out.blk.keep HY21.out fun e => by omega, HI20.out.on.keepT HY21.out (HS20.out.notA (by decide)), HI20.out.off.keepT HY21.out (HS20.out.notA (by decide)), HI20.out.clk.keep HY21.out (fun e => by have h1 := HI20.out.clk.blk.neT HS20.out (by decide); exact h1 e) fun e => by omega⟩
      | true =>
        rw [hgr] at x5 HB13
        go_wp2_with fail
        have hS14 : W13.drew.cell? ⟨p, 1, none⟩ = some (.int .i64 G2.now) ∧ Blk W13.drew w.heap.size 32 t.c := ⟨HI13.out.blk.cell rfl, HT13.out⟩
        refine wp_region_plan [10] [(0, 0), (1, 0), (2, 0), (3, 0), (4, 1), (5, 1), (6, 2), (7, 0), (8, 0), (9, 0), (10, 3)] (fun w' : World => w'.cell? ⟨p, 1, none⟩ = some (.int .i64 G2.now) ∧ Blk w' w.heap.size 32 t.c) (by kernel_rfl) (by kernel_rfl) (fun d v c a w h => by first | (cases d <;> exact h) | exact HP d v c a w h) ?_
        repeat ((first | refine plan_skip rfl rfl ?_ | refine plan_pass2 rfl rfl ?_ | refine plan_pass3 rfl rfl ?_ | (refine plan_take (v := ?_) rfl rfl ?_ ?_; rotate_left; focus (intro w0; go_simp; try with_reducible rfl)) | (refine plan_held (v := ?_) rfl rfl hS14 ?_ ?_; rotate_left; focus (intro w0 hSw; (try dsimp only at hSw); go_split_ands; go_simp; try with_reducible rfl)) | refine plan_skip1 rfl rfl hS14 ?_); simp only [nA, nB, nC, Act.put, nD, nE, nF])
        (refine plan_held (v := .agg t.c.toArray) rfl rfl hS14 (fun w0 h0 => exec_load_blk _ _ rfl w.heap.size 0 rfl 32 t.c t.c _ w0 h0.2 rfl Tryz.underlying32 rfl tuSz) ?_; try simp only [nA, nB, nC, Act.put, nD, nE, nF])
        (refine plan_do rfl rfl fun K hK => ?_; try simp only [nA, nB, nC])
        go_simp
        refine (Member_s t HTO.out _).mono ?_
        rintro e W14 ⟨rfl, hm⟩
        have hm14 : Mod (fun _ => False) W13 W14 := (Mod.refl _ W13).drew.trans hm fun _ f => f.elim
        have HI14 := Lib.hid (HI13.out.keep0 hm14)
        have HT14 := Lib.hid (HT13.out.keep hm14 fun f => f)
        have HS14 := Lib.hid (HS13.out.keep hm14 fun f => f)
        have HB14 := Lib.hid (HB13.out.keep hm14 fun f => f)
        have HM14 : Hid (Mod (fun k => k = p ∨ k = b) w W14) := Lib.hid (HM13.out.trans hm14 fun _ f => f.elim)
        refine hK _ _ ⟨hm.cell (fun f => f) hS14.1, Blk.keep hS14.2 hm fun f => f⟩ ?_
        clear hK K hm hm14 hS14 x5 HI13 HT13 HS13 HB13 HM13 
        try simp only [nA, nB, nC, Act.put, nD, nE, nF]
        repeat ((first | refine plan_skip rfl rfl ?_ | refine plan_pass2 rfl rfl ?_ | refine plan_pass3 rfl rfl ?_ | (refine plan_take (v := ?_) rfl rfl ?_ ?_; rotate_left; focus (intro w0; go_simp; try with_reducible rfl))); simp only [nA, nB, nC, Act.put, nD, nE, nF])
        (refine plan_end rfl rfl rfl fun K hK => ?_; (try simp only [nA, nB, nC]))
        refine wp_store_blk1 3 _ _ rfl p 5 90 _ (.int .i64 (G2.now + t.member)) rfl (by go_simp) HI14.out.blk (by simp [gC]) iSz rfl ?_
        intro W15 HX15 HY15
        have HI15 : Hid (GIn W15 p c b { G2 with ex := ST.ex, on := ST.on, off := ST.off, T := (setT (setT G2.T ST.full (G2.now + t.member)) ST.rest G2.till), till := G2.now + t.member } h1 i1 j1 h2 i2 j2 L3) := Lib.hid ⟨HX15.out, HI14.out.on.keepT HY15.out (HI14.out.blk.notA (by decide)), HI14.out.off.keepT HY15.out (HI14.out.blk.notA (by decide)), HI14.out.clk.keep HY15.out (fun e => HNE.out.1 e.symm) fun e => HNE.out.2.1 e.symm⟩
        have HS15 := Lib.hid (HS14.out.keep HY15.out fun e => by omega)
        have HB15 := Lib.hid (HB14.out.keep HY15.out fun e => by omega)
        have HM15 : Hid (Mod (fun k => k = p ∨ k = b) w W15) := Lib.hid (HM14.out.trans HY15.out fun q hq => .inl (.inl hq))
        refine hK _ _ ?_
        clear hK K HX15 HY15 HI14 HT14 HS14 HB14 HM14 
        try simp only [nA, nB, nC, Act.put, nD, nE, nF]
        refine plan_nil ?_
        have HF3 : Hid (RES = ({ G2 with ex := ST.ex, on := ST.on, off := ST.off, T := onT (setT (setT G2.T ST.full (G2.now + t.member)) ST.rest G2.till) ST.on, till := G2.now + t.member }, LO)) := Lib.hid (by rw [HF2.out, hgr]; rfl)
        clear hgr
        go_wp2_with (first
          | (go_at_call 50; refine (gclean HI15.out (show AS ST.on from HA.out.1) (show ST.on.length ≤ 2000 by have := HA.out.2.2.2.2.1; omega) (HLN.out _ _ _ HDM.out HI15.out.clk)).mono ?_; rintro e W20 ⟨rfl, ⟨L5, hg20⟩, hm20⟩; have HI20 := Lib.hid hg20; have HS20 := Lib.hid (HS15.out.keep hm20 fun e => by omega); have HB20 := Lib.hid (HB15.out.keep hm20 fun e => by omega); have HM20 : Hid (Mod (fun k => k = p ∨ k = b) w W20) := Lib.hid (HM15.out.trans hm20 fun q hq => .inl (.inr hq)); clear hg20 hm20)
          | (refine wpList_load_blk rfl _ _ rfl px 0 rfl 28 [.bool ST.ex, .slice e1 f1 g1, .slice e2 f2 g2, .slice e3 f3 g3, .slice e5 f5 g5, .bool true, .slice e6 f6 g6, .bool al] [.bool ST.ex, .slice e1 f1 g1, .slice e2 f2 g2, .slice e3 f3 g3, .slice e5 f5 g5, .bool true, .slice e6 f6 g6, .bool al] _ HB20.out rfl Tryz.underlying28 rfl spSz ?_)
          | (refine wpList_store_blk rfl _ _ _ rfl (w.heap.size + 2) 0 28 [.bool false, .slice none 0 0, .slice none 0 0, .slice none 0 0, .slice none 0 0, .bool false, .slice none 0 0, .bool false] [.bool ST.ex, .slice e1 f1 g1, .slice e2 f2 g2, .slice e3 f3 g3, .slice e5 f5 g5, .bool true, .slice e6 f6 g6, .bool al] rfl rfl HS20.out (by simp) spSz (by simp [Value.oneCell']) ?_; intro W21 HX21 HY21))
        refine bodyPost_ret (results_blk_tmp rfl _ (w.heap.size + 2) 28 [.bool ST.ex, .slice e1 f1 g1, .slice e2 f2 g2, .slice e3 f3 g3, .slice e5 f5 g5, .bool true, .slice e6 f6 g6, .bool al] rfl rfl (splice_all HX21.out rfl) Tryz.underlying28 rfl spSz) rfl ?_
        rw [HF3.out]
        show RetH2 ST.ex ST.on.length LO _ ∧ _
        refine ⟨(by rw [← HF1.out]; exact ⟨_, _, _, _, _, _, _, _, _, _, _, _, _, _, _, _, rfl⟩), ⟨h1, i1, j1, h2, i2, j2, L5, ?_⟩, HM20.out.trans HY21.out fun q hq => .inr (by omega)⟩
        exact ⟨HI20.out.blk.keep HY21.out fun e => by omega, HI20.out.on.keepT HY21.out (HS20.out.notA (by decide)), HI20.out.off.keepT HY21.out (HS20.out.notA (by decide)), HI20.out.clk.keep HY21.out (fun e => by have h1 := HI20.out.clk.blk.neT HS20.out (by decide); exact h1 e) fun e => by omega⟩
theorem settle_len {G : Gs} (h : GOk G) (now : Int) : (settleG G now).on.length ≤ 400 ∧ (settleG G now).off.length ≤ 400 := by
  have := (h.settle now).len
  omega
section
variable {N : Nat} (SO : SortOk N) {w : World} {p c b : Nat} {G : Gs} (h : GAt w p c b G) (ok : GOk G) (now : Int) (hN : ∀ L : List (Ad × Int), (∀ a1 n1 k1 a2 n2 k2, GIn w p c b G a1 n1 k1 a2 n2 k2 L → (dueL (nowG G now) L).length ≤ N))
include SO h ok hN
set_option maxRecDepth 100000 in
set_option maxHeartbeats 1000000 in
theorem gState : Calls Tryz.prog 12 #[.pointer (some ⟨p, 0, none⟩), .int .i64 now] w fun e w' => ∃ a1 n1 k1 a2 n2 k2, e = .returned (.agg #[.bool (settleG G now).ex, .slice a1 n1 k1, .slice a2 n2 k2]) ∧ RT w' (.slice a1 n1 k1) (settleG G now).on ∧ RT w' (.slice a2 n2 k2) (settleG G now).off ∧ GAt w' p c b (settleG G now) ∧ Mod (fun k => k = p ∨ k = b) w w' := by
  obtain ⟨a1, n1, k1, a2, n2, k2, L, h⟩ := h
  have hn := hN L _ _ _ _ _ _ h
  have hm0 : Mod (fun _ => False) w (w.alloc (.cells #[.bool false, .slice none 0 0, .slice none 0 0] 26 (0, 0))) := (Mod.refl _ _).alloc _
  have H0 := Lib.hid (h.keep0 hm0)
  have HB0 := Lib.hid (Blk.new w 26 [.bool false, .slice none 0 0, .slice none 0 0])
  have HM0 : Hid (Mod (fun k => k = p ∨ k = b) w (w.alloc (.cells #[.bool false, .slice none 0 0, .slice none 0 0] 26 (0, 0)))) := Lib.hid ((Mod.refl _ _).alloc _)
  have OK := Lib.hid ok
  have HSO := Lib.hid SO
  have HN := Lib.hid hn
  have hpl := h.blk.lt
  have hbl := h.clk.mp.lt
  have hsl := settle_len ok now
  clear h hN ok SO hn hm0
  obtain ⟨G1, hG1⟩ : ∃ G1, G1 = settleG G now := ⟨_, rfl⟩
  have HG1 := Lib.hid hG1
  rw [← hG1] at hsl ⊢
  clear hG1
  go_enter Tryz.func12, Tryz.ntmps12
  go_wp2_with fail
  refine (gsettle HSO.out H0.out OK.out now HN.out).mono ?_
  rw [← HG1.out]
  rintro e W1 ⟨rfl, ⟨b1, m1, d1, b2, m2, d2, L1, hg1⟩, hm1⟩
  have HI1 := Lib.hid hg1
  have HB1 := Lib.hid (HB0.out.keep hm1 fun e => by omega)
  have HM1 : Hid (Mod (fun k => k = p ∨ k = b) w W1) := Lib.hid (HM0.out.trans hm1 fun k hk => .inl hk)
  clear hg1 hm1 H0 HB0 HM0
  go_wp2_with (first
    | (refine wpList_load_blk rfl _ _ rfl p 2 rfl 90 _ [.bool G1.ex, .slice b1 m1 d1, .slice b2 m2 d2] _ HI1.out.blk rfl Tryz.underlying26 rfl stSz ?_)
    | (go_at_call 45; refine (gown_s G1.ex HI1.out.on HI1.out.off (by omega) (by omega)).mono ?_; rintro e W2 ⟨f1, g1, i1, f2, g2, i2, rfl, q1, q2, qm⟩; have Q1 := Lib.hid q1; have Q2 := Lib.hid q2; have HI2 := Lib.hid (HI1.out.keep0 qm); have HB2 := Lib.hid (HB1.out.keep qm fun f => f); have HM2 : Hid (Mod (fun k => k = p ∨ k = b) w W2) := Lib.hid (HM1.out.trans qm fun _ f => f.elim); clear q1 q2 qm)
    | (refine wpList_store_blk rfl _ _ _ rfl w.heap.size 0 26 _ [.bool G1.ex, .slice f1 g1 i1, .slice f2 g2 i2] rfl rfl HB2.out (by simp) stSz (by simp [Value.oneCell']) ?_; intro W3 HX3 HY3))
  refine bodyPost_ret (results_blk rfl _ w.heap.size 26 [.bool G1.ex, .slice f1 g1 i1, .slice f2 g2 i2] rfl (splice_all HX3.out rfl) Tryz.underlying26 rfl stSz) rfl ?_
  have HNA := Lib.hid (HB2.out.notA (by decide))
  refine ⟨f1, g1, i1, f2, g2, i2, rfl, Q1.out.keepT HY3.out HNA.out, Q2.out.keepT HY3.out HNA.out, ⟨b1, m1, d1, b2, m2, d2, L1, ?_⟩, HM2.out.trans HY3.out fun q hq => .inr (by omega)⟩
  exact ⟨HI2.out.blk.keep HY3.out fun e => by omega, HI2.out.on.keepT HY3.out HNA.out, HI2.out.off.keepT HY3.out HNA.out, HI2.out.clk.keep HY3.out (fun e => by have h1 := HI2.out.clk.blk.neT HB2.out (by decide); exact h1 e) fun e => by omega⟩
set_option maxRecDepth 100000 in
set_option maxHeartbeats 1000000 in
theorem gLeft : Calls Tryz.prog 22 #[.pointer (some ⟨p, 0, none⟩), .int .i64 now] w fun e w' => e = .returned (.int .i64 (if (settleG G now).ex then (settleG G now).till - (settleG G now).now else 0)) ∧ GAt w' p c b (settleG G now) ∧ Mod (fun k => k = p ∨ k = b) w w' := by
  obtain ⟨a1, n1, k1, a2, n2, k2, L, h⟩ := h
  have hn := hN L _ _ _ _ _ _ h
  have HH := Lib.hid h
  have OK := Lib.hid ok
  have HSO := Lib.hid SO
  have HN := Lib.hid hn
  have OK1 := ok.settle now
  clear h hN ok SO hn
  obtain ⟨G1, hG1⟩ : ∃ G1, G1 = settleG G now := ⟨_, rfl⟩
  have HG1 := Lib.hid hG1
  rw [← hG1] at OK1 ⊢
  clear hG1
  go_enter Tryz.func22, Tryz.ntmps22
  go_wp2_with fail
  refine (gsettle HSO.out HH.out OK.out now HN.out).mono ?_
  rw [← HG1.out]
  have ew : IntKind.i64.wrap (G1.till - G1.now) = G1.till - G1.now := IntWalk.i64_in _ (by have h1 := OK1.till; have h2 := OK1.now0; have h3 := OK1.now1; omega)
  rintro e W1 ⟨rfl, ⟨b1, m1, d1, b2, m2, d2, L1, hg1⟩, hm1⟩
  have HI1 := Lib.hid hg1
  have HM1 := Lib.hid hm1
  have x2 : W1.cell? ⟨p, 2, none⟩ = some (.bool G1.ex) := HI1.out.blk.cell rfl
  clear hg1 hm1 OK1
  cases hex : G1.ex with
  | false =>
    rw [hex] at x2
    go_wp2
    all_goals
      go_ret
      exact ⟨rfl, ⟨_, _, _, _, _, _, _, HI1.out⟩, HM1.out⟩
  | true =>
    rw [hex] at x2
    go_wp2_with fail
    have hS : W1.drew.cell? ⟨p, 5, none⟩ = some (.int .i64 G1.till) ∧ W1.drew.cell? ⟨p, 1, none⟩ = some (.int .i64 G1.now) := ⟨HI1.out.blk.cell rfl, HI1.out.blk.cell rfl⟩
    refine wp_region_plan [] [(0, 0), (1, 0), (2, 0), (3, 1), (4, 0), (5, 0), (6, 0), (7, 1), (8, 0), (9, 0)] (fun w' : World => w'.cell? ⟨p, 5, none⟩ = some (.int .i64 G1.till) ∧ w'.cell? ⟨p, 1, none⟩ = some (.int .i64 G1.now)) (by kernel_rfl) (by kernel_rfl) (fun d v c a w h => by first | (cases d <;> exact h) | exact HP d v c a w h) ?_
    repeat ((first | refine plan_skip rfl rfl ?_ | refine plan_pass2 rfl rfl ?_ | refine plan_pass3 rfl rfl ?_ | (refine plan_take (v := ?_) rfl rfl ?_ ?_; rotate_left; focus (intro w0; go_simp; try with_reducible rfl)) | (refine plan_held (v := ?_) rfl rfl hS ?_ ?_; rotate_left; focus (intro w0 hSw; (try dsimp only at hSw); go_split_ands; go_simp; try with_reducible rfl)) | refine plan_skip1 rfl rfl hS ?_); simp only [nA, nB, nC, Act.put, nD, nE, nF])
    refine plan_nil ?_
    go_wp2
    go_ret
    exact ⟨by simp, ⟨_, _, _, _, _, _, _, HI1.out.keep0 (Mod.refl _ W1).drew⟩, HM1.out.drew⟩
end
def uT : Tn := ⟨2, 12, 2, 2, 2⟩
theorem uT_ok : uT.ok := by unfold Tn.ok uT; simp
structure EG (G : Gs) (M n : Int) : Prop where
  now : G.now = n
  n0 : 0 ≤ n
  on : AS G.on
  off : AS G.off
  dis : ∀ a ∈ G.on, a ∉ G.off
  sum : G.on.length + G.off.length ≤ 32
  dom : ∀ a, G.T a ≠ none → a ∈ G.on
  dl : ∀ a ∈ G.on, ∃ t, G.T a = some t
  tb : ∀ a t, G.T a = some t → 0 ≤ t ∧ t ≤ n + M
  till : 0 ≤ G.till ∧ G.till ≤ n + M
theorem EG.ok {G : Gs} {M n : Int} (h : EG G M n) (hM : 0 ≤ M ∧ M ≤ 3000000) (hn : n ≤ 1000000000000) : GOk G := by
  have h1 := h.n0
  have h2 := h.till
  refine ⟨h.on, h.off, by have := h.sum; omega, by rw [h.now]; exact h1, by rw [h.now]; exact hn, h.dom, fun a t ht => ?_, by omega⟩
  have := h.tb a t ht
  omega
theorem EG.due {G : Gs} {M n : Int} (h : EG G M n) {L : List (Ad × Int)} (hl : TL L G.T) (m : Int) : (dueL m L).length ≤ 32 := by
  have h1 := hl.len h.dom
  have h2 := List.length_filter_le (fun p : Ad × Int => decide (p.2 ≤ m)) L
  have h3 := h.sum
  unfold dueL
  omega
theorem EG.g0 (v6 : Bool) (M : Int) (hM : 0 ≤ M) : EG (G0 v6) M 0 := ⟨rfl, Int.le_refl _, AS.nil, AS.nil, fun a ha => (by cases ha), Nat.zero_le _, fun a h => absurd rfl h, fun a ha => (by cases ha), fun a t ht => (by cases ht), ⟨Int.le_refl _, by simpa [G0] using hM⟩⟩
theorem EG.nowE {G : Gs} {M n : Int} (h : EG G M n) {m : Int} (hm : n ≤ m) (h1 : m ≤ 1000000000000) : nowG G m = m := by
  have := h.now
  unfold nowG
  omega
theorem EG.settle {G : Gs} {M n : Int} (h : EG G M n) {m : Int} (hm : n ≤ m) (h1 : m ≤ 1000000000000) (hM : 0 ≤ M) : EG (settleG G m) M m := by
  have hw := h.nowE hm h1
  have e1 := filt_len G.on fun a => dueB G.T (nowG G m) a
  have e2 := orA_len G.off (G.on.filter fun a => dueB G.T (nowG G m) a)
  have e3 := h.sum
  have e4 := h.n0
  have has := h.on.filter fun a => dueB G.T (nowG G m) a
  refine ⟨hw, by omega, h.on.filter _, ?_, ?_, ?_, fun a ha => ?_, fun a ha => ?_, fun a t ht => ?_, ?_⟩
  · show AS (if goneG G m then [] else if G.ex then orA G.off (G.on.filter fun a => dueB G.T (nowG G m) a) else G.off)
    split
    · exact AS.nil
    · split
      · exact orA_as h.off has
      · exact h.off
  · intro a ha
    obtain ⟨h2, h3⟩ := List.mem_filter.1 (show a ∈ G.on.filter fun a => !dueB G.T (nowG G m) a from ha)
    show a ∉ (if goneG G m then [] else if G.ex then orA G.off (G.on.filter fun a => dueB G.T (nowG G m) a) else G.off)
    split
    · simp
    · split
      · rw [mem_orA h.off has]
        rintro (h4 | h4)
        · exact h.dis a h2 h4
        · have := (List.mem_filter.1 h4).2
          rw [this] at h3
          cases h3
      · exact h.dis a h2
  · show (G.on.filter fun a => !dueB G.T (nowG G m) a).length + (if goneG G m then [] else if G.ex then orA G.off (G.on.filter fun a => dueB G.T (nowG G m) a) else G.off).length ≤ 32
    split
    · simp only [List.length_nil]; omega
    · split <;> omega
  · have ha' : updn G.T (nowG G m) a ≠ none := ha
    show a ∈ G.on.filter _
    unfold updn at ha'
    cases hT : G.T a with
    | none => rw [hT] at ha'; exact absurd rfl ha'
    | some t =>
      rw [hT] at ha'
      refine List.mem_filter.2 ⟨h.dom a (by rw [hT]; simp), ?_⟩
      unfold dueB
      rw [hT]
      by_cases hle : t ≤ nowG G m
      · simp [hle] at ha'
      · simp [hle]
  · obtain ⟨h2, h3⟩ := List.mem_filter.1 (show a ∈ G.on.filter fun a => !dueB G.T (nowG G m) a from ha)
    obtain ⟨t, ht⟩ := h.dl a h2
    refine ⟨t, ?_⟩
    show updn G.T (nowG G m) a = some t
    unfold updn
    unfold dueB at h3
    rw [ht] at h3 ⊢
    simp only at h3 ⊢
    rw [if_neg]
    intro hle
    simp [hle] at h3
  · have ht' : updn G.T (nowG G m) a = some t := ht
    unfold updn at ht'
    cases hT : G.T a with
    | none => rw [hT] at ht'; cases ht'
    | some u =>
      rw [hT] at ht'
      have := h.tb a u hT
      by_cases hle : u ≤ nowG G m
      · simp [hle] at ht'
      · simp [hle] at ht'; omega
  · have := h.till
    show 0 ≤ G.till ∧ G.till ≤ m + M
    omega
theorem AS.nodup {l : List Ad} (h : AS l) : l.Nodup := h.1.imp fun {a b} hab e => by rw [e] at hab; exact Nat.lt_irrefl _ hab
structure StE (G : Gs) (s : St) (b : List Ad) : Prop where
  on : AS s.on
  off : AS s.off
  dis : ∀ a ∈ s.on, a ∉ s.off
  sub : ∀ a, a ∈ s.on ∨ a ∈ s.off → a ∈ G.on ∨ a ∈ G.off ∨ a ∈ b
  dl : ∀ a ∈ s.on, a ∈ s.full ∨ a ∈ s.rest ∨ a ∈ G.on
end Go.Proofs.YtcccdlmngddalaaGreat
