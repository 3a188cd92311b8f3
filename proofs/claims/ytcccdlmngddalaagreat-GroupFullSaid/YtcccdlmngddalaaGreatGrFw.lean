/- GroupFull: the walk. -/
import Derived.Test.YtcccdlmngddalaaGreatGrGf
import Derived.Test.YtcccdlmngddalaaGreatGrG
import Derived.Test.YtcccdlmngddalaaGreatLives17
namespace Go.Proofs.YtcccdlmngddalaaGreat
open Go.RowKit Go.Sort
set_option linter.unusedVariables false
set_option linter.unusedSimpArgs false
theorem settle_len {G : Gs} (h : GOk G) (now : Int) : (settleG G now).on.length ≤ 400 ∧ (settleG G now).off.length ≤ 400 := by
  have := (h.settle now).len
  omega
section
variable {N : Nat} (SO : SortOk N) {w : World} {p c b : Nat} {G : Gs} (h : GAt w p c b G) (ok : GOk G) (now : Int) (hN : ∀ L : List (Ad × Int), (∀ a1 n1 k1 a2 n2 k2, GIn w p c b G a1 n1 k1 a2 n2 k2 L → (dueL (nowG G now) L).length ≤ N))
include SO h ok hN
set_option maxRecDepth 100000 in
set_option maxHeartbeats 1000000 in
theorem gState : Calls Tryz.prog 12 #[.pointer (some ⟨p, 0, none⟩), .int .i64 now] w fun e w' => ∃ a1 n1 k1 a2 n2 k2, e = .returned (.agg #[.bool (settleG G now).ex, .slice a1 n1 k1, .slice a2 n2 k2]) ∧ RT w' (.slice a1 n1 k1) (settleG G now).on ∧ RT w' (.slice a2 n2 k2) (settleG G now).off ∧ GAt w' p c b (settleG G now) ∧ Mod (fun k => k = p ∨ k = b) w w' := by
  obtain ⟨a1, n1, k1, a2, n2, k2, L, h⟩ := h
  have hn := hN L _ _ _ _ _ _ h
  have hm0 : Mod (fun _ => False) w (w.alloc (.cells #[.bool false, .slice none 0 0, .slice none 0 0] 26 (0, 0))) := (Mod.refl _ _).alloc _
  have H0 := Lib.hid (h.keep0 hm0)
  have HB0 := Lib.hid (Blk.new w 26 [.bool false, .slice none 0 0, .slice none 0 0])
  have HM0 : Hid (Mod (fun k => k = p ∨ k = b) w (w.alloc (.cells #[.bool false, .slice none 0 0, .slice none 0 0] 26 (0, 0)))) := Lib.hid ((Mod.refl _ _).alloc _)
  have OK := Lib.hid ok
  have HSO := Lib.hid SO
  have HN := Lib.hid hn
  have hpl := h.blk.lt
  have hbl := h.clk.mp.lt
  have hsl := settle_len ok now
  clear h hN ok SO hn hm0
  obtain ⟨G1, hG1⟩ : ∃ G1, G1 = settleG G now := ⟨_, rfl⟩
  have HG1 := Lib.hid hG1
  rw [← hG1] at hsl ⊢
  clear hG1
  go_enter Tryz.func12, Tryz.ntmps12
  go_wp2_with fail
  refine (gsettle HSO.out H0.out OK.out now HN.out).mono ?_
  rw [← HG1.out]
  rintro e W1 ⟨rfl, ⟨b1, m1, d1, b2, m2, d2, L1, hg1⟩, hm1⟩
  have HI1 := Lib.hid hg1
  have HB1 := Lib.hid (HB0.out.keep hm1 fun e => by omega)
  have HM1 : Hid (Mod (fun k => k = p ∨ k = b) w W1) := Lib.hid (HM0.out.trans hm1 fun k hk => .inl hk)
  clear hg1 hm1 H0 HB0 HM0
  go_wp2_with (first
    | (refine wpList_load_blk rfl _ _ rfl p 2 rfl 90 _ [.bool G1.ex, .slice b1 m1 d1, .slice b2 m2 d2] _ HI1.out.blk rfl Tryz.underlying26 rfl stSz ?_)
    | (go_at_call 45; refine (gown_s G1.ex HI1.out.on HI1.out.off (by omega) (by omega)).mono ?_; rintro e W2 ⟨f1, g1, i1, f2, g2, i2, rfl, q1, q2, qm⟩; have Q1 := Lib.hid q1; have Q2 := Lib.hid q2; have HI2 := Lib.hid (HI1.out.keep0 qm); have HB2 := Lib.hid (HB1.out.keep qm fun f => f); have HM2 : Hid (Mod (fun k => k = p ∨ k = b) w W2) := Lib.hid (HM1.out.trans qm fun _ f => f.elim); clear q1 q2 qm)
    | (refine wpList_store_blk rfl _ _ _ rfl w.heap.size 0 26 _ [.bool G1.ex, .slice f1 g1 i1, .slice f2 g2 i2] rfl rfl HB2.out (by simp) stSz (by simp [Value.oneCell']) ?_; intro W3 HX3 HY3))
  refine bodyPost_ret (results_blk rfl _ w.heap.size 26 [.bool G1.ex, .slice f1 g1 i1, .slice f2 g2 i2] rfl (splice_all HX3.out rfl) Tryz.underlying26 rfl stSz) rfl ?_
  have HNA := Lib.hid (HB2.out.notA (by decide))
  refine ⟨f1, g1, i1, f2, g2, i2, rfl, Q1.out.keepT HY3.out HNA.out, Q2.out.keepT HY3.out HNA.out, ⟨b1, m1, d1, b2, m2, d2, L1, ?_⟩, HM2.out.trans HY3.out fun q hq => .inr (by omega)⟩
  exact ⟨HI2.out.blk.keep HY3.out fun e => by omega, HI2.out.on.keepT HY3.out HNA.out, HI2.out.off.keepT HY3.out HNA.out, HI2.out.clk.keep HY3.out (fun e => by have h1 := HI2.out.clk.blk.neT HB2.out (by decide); exact h1 e) fun e => by omega⟩
set_option maxRecDepth 100000 in
set_option maxHeartbeats 1000000 in
theorem gLeft : Calls Tryz.prog 22 #[.pointer (some ⟨p, 0, none⟩), .int .i64 now] w fun e w' => e = .returned (.int .i64 (if (settleG G now).ex then (settleG G now).till - (settleG G now).now else 0)) ∧ GAt w' p c b (settleG G now) ∧ Mod (fun k => k = p ∨ k = b) w w' := by
  obtain ⟨a1, n1, k1, a2, n2, k2, L, h⟩ := h
  have hn := hN L _ _ _ _ _ _ h
  have HH := Lib.hid h
  have OK := Lib.hid ok
  have HSO := Lib.hid SO
  have HN := Lib.hid hn
  have OK1 := ok.settle now
  clear h hN ok SO hn
  obtain ⟨G1, hG1⟩ : ∃ G1, G1 = settleG G now := ⟨_, rfl⟩
  have HG1 := Lib.hid hG1
  rw [← hG1] at OK1 ⊢
  clear hG1
  go_enter Tryz.func22, Tryz.ntmps22
  go_wp2_with fail
  refine (gsettle HSO.out HH.out OK.out now HN.out).mono ?_
  rw [← HG1.out]
  have ew : IntKind.i64.wrap (G1.till - G1.now) = G1.till - G1.now := IntWalk.i64_in _ (by have h1 := OK1.till; have h2 := OK1.now0; have h3 := OK1.now1; omega)
  rintro e W1 ⟨rfl, ⟨b1, m1, d1, b2, m2, d2, L1, hg1⟩, hm1⟩
  have HI1 := Lib.hid hg1
  have HM1 := Lib.hid hm1
  have x2 : W1.cell? ⟨p, 2, none⟩ = some (.bool G1.ex) := HI1.out.blk.cell rfl
  clear hg1 hm1 OK1
  cases hex : G1.ex with
  | false =>
    rw [hex] at x2
    go_wp2
    all_goals
      go_ret
      exact ⟨rfl, ⟨_, _, _, _, _, _, _, HI1.out⟩, HM1.out⟩
  | true =>
    rw [hex] at x2
    go_wp2_with fail
    have hS : W1.drew.cell? ⟨p, 5, none⟩ = some (.int .i64 G1.till) ∧ W1.drew.cell? ⟨p, 1, none⟩ = some (.int .i64 G1.now) := ⟨HI1.out.blk.cell rfl, HI1.out.blk.cell rfl⟩
    refine wp_region_plan [] [(0, 0), (1, 0), (2, 0), (3, 1), (4, 0), (5, 0), (6, 0), (7, 1), (8, 0), (9, 0)] (fun w' : World => w'.cell? ⟨p, 5, none⟩ = some (.int .i64 G1.till) ∧ w'.cell? ⟨p, 1, none⟩ = some (.int .i64 G1.now)) (by kernel_rfl) (by kernel_rfl) (fun d v c a w h => by first | (cases d <;> exact h) | exact HP d v c a w h) ?_
    repeat (first | (refine plan_skip rfl rfl ?_; simp only [List.getElem_toArray, List.getElem_cons_succ, List.getElem_cons_zero, Act.put, List.setIfInBounds_toArray, List.set_cons_zero, List.set_cons_succ]) | (refine plan_pass2 rfl rfl ?_; simp only [List.getElem_toArray, List.getElem_cons_succ, List.getElem_cons_zero, Act.put, List.setIfInBounds_toArray, List.set_cons_zero, List.set_cons_succ]) | (refine plan_pass3 rfl rfl ?_; simp only [List.getElem_toArray, List.getElem_cons_succ, List.getElem_cons_zero, Act.put, List.setIfInBounds_toArray, List.set_cons_zero, List.set_cons_succ]) | (refine plan_take (v := ?_) rfl rfl ?_ ?_; rotate_left; (focus (intro w0; go_simp; try with_reducible rfl)); simp only [List.getElem_toArray, List.getElem_cons_succ, List.getElem_cons_zero, Act.put, List.setIfInBounds_toArray, List.set_cons_zero, List.set_cons_succ]) | (refine plan_held (v := ?_) rfl rfl hS ?_ ?_; rotate_left; (focus (intro w0 hSw; (try dsimp only at hSw); go_split_ands; go_simp; try with_reducible rfl)); simp only [List.getElem_toArray, List.getElem_cons_succ, List.getElem_cons_zero, Act.put, List.setIfInBounds_toArray, List.set_cons_zero, List.set_cons_succ])  | (refine plan_skip1 rfl rfl hS ?_; simp only [List.getElem_toArray, List.getElem_cons_succ, List.getElem_cons_zero, Act.put, List.setIfInBounds_toArray, List.set_cons_zero, List.set_cons_succ]))
    refine plan_nil ?_
    go_wp2
    go_ret
    exact ⟨by simp, ⟨_, _, _, _, _, _, _, HI1.out.keep0 (Mod.refl _ W1).drew⟩, HM1.out.drew⟩
end
/-- the law's tune -/
def uT : Tn := ⟨2, 12, 2, 2, 2⟩
theorem uT_ok : uT.ok := by unfold Tn.ok uT; simp
set_option maxRecDepth 100000 in
theorem usual_any (w : World) : Calls Tryz.prog 10 #[] w fun e w' => e = .returned (.agg uT.c.toArray) ∧ Mod (fun _ => False) w w' := by
  have HB := Lib.hid (Blk.new w 32 [.int .i64 0, .int .i64 0, .int .i64 0, .int .i64 0, .int .i64 0])
  go_enter Tryz.func10, Tryz.ntmps10
  go_wp2_with (refine wpList_store_blk rfl _ _ _ rfl w.heap.size 0 32 _ uT.c rfl rfl HB.out (by simp [Tn.c]) tuSz (by simp [Tn.c, Value.oneCell']) ?_; intro W1 HX1 HY1)
  refine bodyPost_ret (results_blk rfl _ w.heap.size 32 uT.c rfl (splice_all HX1.out rfl) Tryz.underlying32 rfl tuSz) rfl ?_
  exact ⟨rfl, ((Mod.refl _ _).alloc _).trans HY1.out fun q hq => .inr (by omega)⟩
/-- the law's sources -/
def many1 (base i : Nat) : Ad := ⟨false, [10, 0, 0, ((base + i : Nat) : Int) % 256, 0, 0, 0, 0, 0, 0, 0, 0, 0, 0, 0, 0], rfl, fun x hx => by simp at hx; omega⟩
def manyL (n base : Nat) : List Ad := (List.range n).map (many1 base)
theorem manyL_len (n base : Nat) : (manyL n base).length = n := by simp [manyL]
set_option maxRecDepth 100000 in
set_option maxHeartbeats 1000000 in
theorem many_any (n base : Nat) (hn : n ≤ 40) (hb : base ≤ 100) (w : World) : Calls Tryz.prog 11 #[.int .i64 (n : Int), .int .i64 (base : Int)] w fun e w' => ∃ a1 n1 k1, e = .returned (.slice a1 n1 k1) ∧ RowA w' (fun q => w.heap.size ≤ q) (.slice a1 n1 k1) (manyL n base) ∧ Mod (fun _ => False) w w' := by
  have HN := Lib.hid hn
  have HBA := Lib.hid hb
  clear hb
  go_enter Tryz.func11, Tryz.ntmps11
  go_wp2_with fail
  go_loopw [5, 6] (fun v5 iv wr => ∃ j : Nat, j ≤ n ∧ iv = .int .i64 (j : Int) ∧ RowA wr (fun q => w.heap.size ≤ q) v5 (manyL j base) ∧ Mod (fun _ => False) w wr) (fun _ iv _ => n - (intOf iv).toNat)
  case atStart => exact ⟨0, Nat.zero_le _, rfl, Row.empty w _ 17, (Mod.refl _ _).alloc _⟩
  case round =>
    obtain ⟨j, hj, rfl, hrow, hmw⟩ := hrel
    obtain ⟨a5, n5, c5, rfl⟩ := hrow.sl
    have HROW := Lib.hid hrow
    have HMW := Lib.hid hmw
    clear hrow hmw
    by_cases hlt : j < n
    · obtain ⟨x, hx⟩ : ∃ x, x = many1 base j := ⟨_, rfl⟩
      obtain ⟨y, hy⟩ : ∃ y : Int, y = (base : Int) + (j : Int) := ⟨_, rfl⟩
      have hy0 : 0 ≤ y ∧ y < 256 := by have := HN.out; have := HBA.out; omega
      have xc : x.c = [.bool false, .int .u8 10, .int .u8 0, .int .u8 0, .int .u8 y, .int .u8 0, .int .u8 0, .int .u8 0, .int .u8 0, .int .u8 0, .int .u8 0, .int .u8 0, .int .u8 0, .int .u8 0, .int .u8 0, .int .u8 0, .int .u8 0] := by
        rw [hx]
        show adrC false [10, 0, 0, ((base + j : Nat) : Int) % 256, 0, 0, 0, 0, 0, 0, 0, 0, 0, 0, 0, 0] = _
        rw [show ((base + j : Nat) : Int) % 256 = y by omega]
        rfl
      have HXC := Lib.hid xc
      have HSN : Hid (manyL (j + 1) base = manyL j base ++ [x]) := Lib.hid (by unfold manyL; rw [List.range_succ, List.map_append, hx]; rfl)
      have HXL := Lib.hid x.c_len
      have HX1 := Lib.hid x.c_one
      have e0 : IntKind.i64.wrap ((base : Int) + (j : Int)) = y := by rw [← hy]; exact IntWalk.i64_in _ (by omega)
      have e1 : IntKind.u8.wrap y = y := by show y % 256 = y; omega
      have e2 : y.tdiv 256 = 0 := Int.tdiv_eq_zero_of_lt hy0.1 hy0.2
      obtain ⟨lj, hlj⟩ : ∃ lj, lj = manyL j base := ⟨_, rfl⟩
      rw [← hlj] at HROW HSN
      have HLK : Hid (lj.length ≤ 40) := Lib.hid (by rw [hlj, manyL_len]; have := HN.out; omega)
      have HHY := Lib.hid hy
      clear xc hx hlj hy
      go_wp2_with (first
        | (refine wpList_buildSlice1 Tryz.elA rfl _ rfl x.c (by rw [HXC.out]; rfl) HXL.out (by decide) (by decide) ?_)
        | (at_builtin; refine wpList_append_one Tryz.elA rfl (.tmp 13) (.tmp 25) rfl x.c.toArray (fun q => w.heap.size ≤ q) (.slice a5 n5 c5) lj.length (cellsA lj) (HROW.out.alloc _) _ (allocNew wr _) rfl rfl (by simpa using HXL.out) (by simpa using HX1.out) (by have := HLK.out; omega) (by have := HLK.out; unfold maxLen; omega) ?_; intro v9 w9 h9 h9m; have H9 := Lib.hid h9; have H9M := Lib.hid h9m; clear h9 h9m))
      go_roundw
      case rel =>
        refine ⟨j + 1, by omega, by go_num, ?_, (HMW.out.alloc _).trans H9M.out fun q hq => .inr (HROW.out.2 q hq)⟩
        rw [HSN.out]
        unfold RowA
        rw [cellsA_app, show cellsA [x] = x.c by simp [cellsA], List.length_append]
        have hsz := HMW.out.size
        exact H9.out.mono fun q hq => hq.elim (fun h => h) fun h => by simp at h; omega
      case measure => simp [intOf]; omega
    · obtain rfl : j = n := by omega
      go_wp2
      go_ret
      exact ⟨_, _, _, rfl, HROW.out, HMW.out⟩
end Go.Proofs.YtcccdlmngddalaaGreat
namespace Go.Proofs.YtcccdlmngddalaaGreat
open Go.RowKit Go.Sort
set_option linter.unusedVariables false
set_option linter.unusedSimpArgs false
theorem bval4 (y : Int) : bval [10, 0, 0, y] = 167772160 + y.toNat := by
  simp only [bval, List.length_cons, List.length_nil]
  have e1 : (10 : Int).toNat = 10 := rfl
  have e2 : (0 : Int).toNat = 0 := rfl
  rw [e1, e2]
  omega
theorem many1_rk (base i : Nat) (h : base + i < 256) : (many1 base i).rk = 167772160 + (base + i) := by
  have e : ((base + i : Nat) : Int) % 256 = ((base + i : Nat) : Int) := by omega
  have e2 : (many1 base i).rk = bval [10, 0, 0, ((base + i : Nat) : Int) % 256] := rfl
  rw [e2, bval4, e, Int.toNat_natCast]
theorem many1_good (base i : Nat) : (many1 base i).good = true := by
  unfold Ad.good adrGood many1
  rfl
theorem mem_manyL {n base : Nat} {a : Ad} : a ∈ manyL n base ↔ ∃ i, i < n ∧ many1 base i = a := by simp [manyL]
theorem manyL_as {n base : Nat} (h : base + n ≤ 256) : AS (manyL n base) := by
  refine ⟨?_, fun a ha => ?_⟩
  · unfold Asc manyL
    rw [List.pairwise_map]
    refine List.Pairwise.imp_of_mem (fun {i j} hi hj hij => ?_) List.pairwise_lt_range
    have h1 := List.mem_range.1 hi
    have h2 := List.mem_range.1 hj
    rw [many1_rk base i (by omega), many1_rk base j (by omega)]
    omega
  · obtain ⟨i, _, rfl⟩ := mem_manyL.1 ha
    exact many1_good _ _
theorem manyL_take (n base k : Nat) : (manyL n base).take k = manyL (min k n) base := by
  unfold manyL
  rw [← List.map_take, List.take_range]
/-- both rows, one behind the other -/
theorem manyL_app {x y : Nat} (hx : x ≤ 100) (hy : y ≤ 100) : AS (manyL x 0 ++ manyL y 100) := by
  have h1 := manyL_as (n := x) (base := 0) (by omega)
  have h2 := manyL_as (n := y) (base := 100) (by omega)
  refine ⟨List.pairwise_append.2 ⟨h1.1, h2.1, fun a ha b hb => ?_⟩, fun a ha => ?_⟩
  · obtain ⟨i, hi, rfl⟩ := mem_manyL.1 ha
    obtain ⟨j, hj, rfl⟩ := mem_manyL.1 hb
    rw [many1_rk _ _ (by omega), many1_rk _ _ (by omega)]
    omega
  · rcases List.mem_append.1 ha with h | h
    · exact h1.2 a h
    · exact h2.2 a h
theorem manyL_fresh {x y : Nat} (hx : x ≤ 100) (hy : y ≤ 100) : ∀ a ∈ manyL y 100, a ∉ manyL x 0 := fun a ha hb => by
  obtain ⟨i, hi, rfl⟩ := mem_manyL.1 ha
  obtain ⟨j, hj, e⟩ := mem_manyL.1 hb
  have h1 := many1_rk 100 i (by omega)
  have h2 := many1_rk 0 j (by omega)
  rw [e] at h2
  omega
theorem roomF_fresh {known : List Ad} : ∀ (l : List Ad) (left : Int), (∀ a ∈ l, a ∉ known) → roomF known left l = (l.take left.toNat, (l.length : Int) - min (max left 0) l.length)
  | [], left, _ => by simp [roomF]; omega
  | a :: l, left, h => by
    have ih := roomF_fresh l (left - 1) fun x hx => h x (List.mem_cons_of_mem _ hx)
    rw [roomF, if_neg (h a List.mem_cons_self), ih]
    by_cases h1 : left - 1 < 0
    · rw [if_pos h1]
      have e1 : left.toNat = 0 := by omega
      have e2 : (left - 1).toNat = 0 := by omega
      rw [e1, e2]
      simp only [List.take_zero, List.length_cons]
      congr 1
      omega
    · rw [if_neg h1]
      have e1 : left.toNat = (left - 1).toNat + 1 := by omega
      rw [e1, List.take_succ_cons]
      simp only [List.length_cons]
      congr 1
      omega
theorem orA_app {l m : List Ad} (h1 : AS l) (h2 : AS m) (h : AS (l ++ m)) : orA l m = l ++ m :=
  AS.ext (orA_as h1 h2) h fun x => by rw [mem_orA h1 h2, List.mem_append]
/-- a group that holds just these, and nothing older -/
structure QG (G : Gs) (on : List Ad) : Prop where
  v6 : G.v6 = false
  one : G.one = 0
  two : G.two = 0
  eon : G.on = on
  off : G.off = []
  now : 0 ≤ G.now ∧ G.now ≤ 1
  T : ∀ a t, G.T a = some t → 26 ≤ t ∧ t ≤ 27
  dom : ∀ a, G.T a ≠ none → a ∈ on
  till : 0 ≤ G.till ∧ G.till ≤ 26
  ex : G.ex = true → G.till = 26
theorem QG.ok {G : Gs} {on : List Ad} (h : QG G on) (ha : AS on) (hl : on.length ≤ 300) : GOk G := by
  have h1 := h.now
  have h2 := h.till
  exact ⟨by rw [h.eon]; exact ha, by rw [h.off]; exact AS.nil, by rw [h.eon, h.off]; simp; omega, by omega, by omega, fun a ht => by rw [h.eon]; exact h.dom a ht, fun a t ht => by have := h.T a t ht; omega, by omega⟩
theorem nodue {L : List (Ad × Int)} {T : Ad → Option Int} (h : TL L T) {n : Int} (ht : ∀ a t, T a = some t → n < t) : dueL n L = [] := by
  unfold dueL
  rw [List.filter_eq_nil_iff]
  rintro ⟨a, t⟩ hp
  have := ht a t (h.mem.2 hp)
  simp only [decide_eq_true_eq]
  omega
theorem QG.nowb {G : Gs} {on : List Ad} (h : QG G on) (n : Int) (hn : n = 0 ∨ n = 1) : 0 ≤ nowG G n ∧ nowG G n ≤ 1 := by
  have := h.now
  unfold nowG
  omega
theorem QG.nodues {G : Gs} {on : List Ad} (h : QG G on) {L : List (Ad × Int)} (hl : TL L G.T) (n : Int) (hn : n = 0 ∨ n = 1) : (dueL (nowG G n) L).length ≤ 0 := by
  rw [nodue hl fun a t ht => by have h1 := h.T a t ht; have h2 := h.nowb n hn; omega]
  exact Nat.le_refl _
theorem QG.settle {G : Gs} {on : List Ad} (h : QG G on) (n : Int) (hn : n = 0 ∨ n = 1) : settleG G n = { G with now := nowG G n } := by
  have h2 := h.nowb n hn
  have hd : ∀ a, dueB G.T (nowG G n) a = false := fun a => by
    cases hd : dueB G.T (nowG G n) a with
    | false => rfl
    | true => obtain ⟨t, ht, hle⟩ := dueB_iff.1 hd; have := h.T a t ht; omega
  have hg : goneG G n = false := by
    unfold goneG
    cases hx : G.ex with
    | false => rfl
    | true =>
      have := h.ex hx
      simp
      omega
  have ht : updn G.T (nowG G n) = G.T := by
    funext a
    unfold updn
    cases hx : G.T a with
    | none => rfl
    | some t =>
      have := h.T a t hx
      simp only
      rw [if_neg (by omega)]
  have e1 : G.on.filter (fun a => !dueB G.T (nowG G n) a) = G.on := List.filter_eq_self.2 fun a _ => by rw [hd]; rfl
  have e2 : G.on.filter (fun a => dueB G.T (nowG G n) a) = [] := List.filter_eq_nil_iff.2 fun a _ => by rw [hd]; simp
  unfold settleG
  rw [hg, ht, e1, e2]
  simp [orA_nil']
theorem QG.settled {G : Gs} {on : List Ad} (h : QG G on) (n : Int) (hn : n = 0 ∨ n = 1) : QG (settleG G n) on := by
  rw [h.settle n hn]
  exact ⟨h.v6, h.one, h.two, h.eon, h.off, h.nowb n hn, h.T, h.dom, h.till, h.ex⟩
theorem QG.hear {G : Gs} {on : List Ad} (h : QG G on) (n : Int) (hn : n = 0 ∨ n = 1) (k : Int) (l : List Ad) : hearG G n 26 0 k l = recG (settleG G n) 26 k l := by
  have h1 := h.settled n hn
  have e0 : hearsG (settleG G n) 26 0 = settleG G n := by
    unfold hearsG
    rw [if_neg (by simp), if_neg (by simp)]
  have hm : modeV (settleG G n).v6 (settleG G n).now (settleG G n).one (settleG G n).two = 3 := by
    have := h1.now
    unfold modeV lastV
    rw [h1.one, h1.two, h1.v6, if_neg (by omega), if_neg (by omega)]
    rfl
  unfold hearG
  rw [e0, hm, h1.v6]
  have hc : cutG false 3 k l = (true, k, l) := by unfold cutG lastV; rfl
  rw [hc]
  rfl
theorem QG.add {G : Gs} {on l : List Ad} (h : QG G on) (ha : AS on) (hl : AS l) (hv : ∀ a ∈ l, a.v = false) (hf : ∀ a ∈ l, a ∉ on) (hs : AS (on ++ l.take (32 - (on.length : Int)).toNat)) (h1 : 1 ≤ G.now) :
    QG (recG G 26 5 l).1 (on ++ l.take (32 - (on.length : Int)).toNat) ∧ (recG G 26 5 l).2 = (l.length : Int) - min (max (32 - (on.length : Int)) 0) l.length := by
  obtain ⟨l', hl'⟩ : ∃ l', l' = l.take (32 - (on.length : Int)).toNat := ⟨_, rfl⟩
  have has' : AS l' := by rw [hl']; exact hl.sub (List.take_sublist _ _)
  have hr : roomG G 5 l = (l', (l.length : Int) - min (max (32 - (on.length : Int)) 0) l.length) := by
    unfold roomG
    rw [if_neg (by simp), h.eon, h.off, orA_nil', ofA_self hl, h.v6, List.filter_eq_self.2 fun a ha => by rw [hv a ha]; rfl, roomF_fresh l _ hf, hl']
  rw [← hl'] at hs ⊢
  have ho : orA on l' = on ++ l' := orA_app ha has' hs
  have hst : (stG G 5 l).ex = G.ex ∧ (stG G 5 l).on = on ++ l' ∧ (stG G 5 l).off = [] ∧ (stG G 5 l).full = l' ∧ (stG G 5 l).rest = [] ∧ (stG G 5 l).grp = false := by
    unfold stG appl
    rw [hr, h.eon, h.off]
    simp only
    rw [ofA_self has']
    cases hx : G.ex with
    | false => simp [incl, ho]
    | true =>
      have hm : minA [] l' = [] := List.eq_nil_of_length_eq_zero (Nat.le_zero.1 (minA_len [] l'))
      simp [excl, ho, hm]
  obtain ⟨s1, s2, s3, s4, s5, s6⟩ := hst
  have e2 : (recG G 26 5 l).2 = (roomG G 5 l).2 := rfl
  refine ⟨?_, by rw [e2, hr]⟩
  have hT : ∀ a t, (recG G 26 5 l).1.T a = some t → 26 ≤ t ∧ t ≤ 27 := fun a t ht => by
    have ht' : onT (setT (setT G.T (stG G 5 l).full (G.now + 26)) (stG G 5 l).rest G.till) (stG G 5 l).on a = some t := ht
    rw [s2, s4, s5] at ht'
    have hn := h.now
    unfold onT setT at ht'
    split at ht'
    · rw [if_neg (by simp)] at ht'
      split at ht'
      · cases ht'; omega
      · exact h.T a t ht'
    · cases ht'
  refine ⟨h.v6, h.one, h.two, s2, s3, h.now, hT, fun a hd => ?_, ?_, ?_⟩
  · have hd' : onT (setT (setT G.T (stG G 5 l).full (G.now + 26)) (stG G 5 l).rest G.till) (stG G 5 l).on a ≠ none := hd
    rw [s2] at hd'
    unfold onT at hd'
    split at hd'
    · assumption
    · exact absurd rfl hd'
  · show 0 ≤ (if (stG G 5 l).grp then G.now + 26 else G.till) ∧ (if (stG G 5 l).grp then G.now + 26 else G.till) ≤ 26
    rw [s6]
    exact h.till
  · intro hx
    have hx' : (stG G 5 l).ex = true := hx
    rw [s1] at hx'
    show (if (stG G 5 l).grp then G.now + 26 else G.till) = 26
    rw [s6]
    exact h.ex hx'
theorem QG.g0 : QG (G0 false) [] := ⟨rfl, rfl, rfl, rfl, rfl, ⟨Int.le_refl _, by decide⟩, fun a t ht => (by cases ht), fun a h => absurd rfl h, ⟨Int.le_refl _, by decide⟩, fun h => (by cases h)⟩
theorem andA_nil : andA [] [] = [] := by unfold andA; rw [mrg]; rfl
theorem minA_nil : minA [] [] = [] := by unfold minA; rw [mrg]; rfl
/-- behind 'all but none' -/
theorem QG.all : QG (hearG (G0 false) 0 26 0 2 []).1 [] := by
  rw [QG.g0.hear 0 (.inl rfl) 2 []]
  have h1 := QG.g0.settled 0 (.inl rfl)
  have hn : (settleG (G0 false) 0).now = 0 := by rw [QG.g0.settle 0 (.inl rfl)]; rfl
  have hx : (settleG (G0 false) 0).ex = false := by rw [QG.g0.settle 0 (.inl rfl)]; rfl
  obtain ⟨G, hG⟩ : ∃ G, G = settleG (G0 false) 0 := ⟨_, rfl⟩
  rw [← hG] at h1 hn hx ⊢
  have ho : ofA [] = [] := rfl
  have hr : (roomG G 2 []).1 = [] := by
    unfold roomG
    rw [if_neg (by simp), ho]
    rfl
  have hst : stG G 2 [] = ⟨true, [], [], [], [], true⟩ := by
    unfold stG appl
    rw [hr, hx, h1.eon, h1.off, ho]
    simp [incl, andA_nil, minA_nil]
  have hT : ∀ a, (recG G 26 2 []).1.T a = none := fun a => by
    show onT (setT (setT G.T (stG G 2 []).full (G.now + 26)) (stG G 2 []).rest G.till) (stG G 2 []).on a = none
    rw [hst]
    simp [onT]
  have htl : (recG G 26 2 []).1.till = 26 := by
    show (if (stG G 2 []).grp then G.now + 26 else G.till) = 26
    rw [hst, hn]
    rfl
  refine ⟨h1.v6, h1.one, h1.two, ?_, ?_, h1.now, fun a t ht => (by rw [hT] at ht; cases ht), fun a h => absurd (hT a) h, (by rw [htl]; decide), fun _ => htl⟩
  · show (stG G 2 []).on = []
    rw [hst]
  · show (stG G 2 []).off = []
    rw [hst]
end Go.Proofs.YtcccdlmngddalaaGreat
namespace Go.Proofs.YtcccdlmngddalaaGreat
open Go.RowKit Go.Sort
set_option linter.unusedVariables false
set_option linter.unusedSimpArgs false
theorem sort0 : SortOk 0 := by
  unfold SortOk
  intros
  omega
def g0A : Ad := ⟨false, List.replicate 16 0, by rfl, fun x hx => by rw [List.eq_of_mem_replicate hx]; omega⟩
/-- a hearing of the law's: what lies behind it -/
theorem hear_q {w : World} {p c b : Nat} {G : Gs} {on : List Ad} (hg : GAt w p c b G) (hq : QG G on) (ha : AS on) (hl : on.length ≤ 64) (n : Int) (hn : n = 0 ∨ n = 1) (k : Int) {ad : Option Addr} {m cap : Nat} {l : List Ad} (hr : RT w (.slice ad m cap) l) (hll : l.length ≤ 40) :
    Calls Tryz.prog 9 #[.pointer (some ⟨p, 0, none⟩), .int .i64 n, .agg uT.c.toArray, .int .i64 0, .agg (recC k g0A (.slice ad m cap)).toArray] w fun e w' => RetH (hearG G n 26 0 k l).2 e ∧ GAt w' p c b (hearG G n 26 0 k l).1 ∧ Mod (fun k => k = p ∨ k = b) w w' := by
  obtain ⟨a1, n1, k1, a2, n2, k2, L, h⟩ := hg
  have := gHear sort0 h (hq.ok ha (by omega)) n (hq.nodues h.clk.tl n hn) uT uT_ok 0 k g0A hr (by omega) (by rw [hq.eon, hq.off]; simp; omega)
  exact this
theorem manyL_get {n base j : Nat} (h : j < n) : (manyL n base)[j]? = some (many1 base j) := by simp [manyL, h]
theorem full_q1 {G : Gs} (h : QG G []) (k : Nat) (hk : k < 40) : QG (hearG G 1 26 0 5 (manyL k 0)).1 (manyL (min 32 k) 0) ∧ (hearG G 1 26 0 5 (manyL k 0)).2 = (k : Int) - min 32 k := by
  rw [h.hear 1 (.inr rfl)]
  have h1 := h.settled 1 (.inr rfl)
  have hn : 1 ≤ (settleG G 1).now := by
    rw [h.settle 1 (.inr rfl)]
    show 1 ≤ nowG G 1
    unfold nowG
    omega
  have ht : (manyL k 0).take (32 - (([] : List Ad).length : Int)).toNat = manyL (min 32 k) 0 := manyL_take k 0 32
  have hs : AS ([] ++ (manyL k 0).take (32 - (([] : List Ad).length : Int)).toNat) := by
    rw [ht]
    exact manyL_as (by omega)
  obtain ⟨q1, q2⟩ := h1.add AS.nil (manyL_as (by omega)) (fun a ha => by obtain ⟨i, _, rfl⟩ := mem_manyL.1 ha; rfl) (fun a _ => by simp) hs hn
  rw [ht] at q1
  refine ⟨q1, ?_⟩
  rw [q2, manyL_len]
  simp only [List.length_nil]
  omega
theorem full_q2 {G : Gs} {x : Nat} (h : QG G (manyL x 0)) (hx : x ≤ 32) (m : Nat) (hm : m < 40) : QG (hearG G 1 26 0 5 (manyL m 100)).1 (manyL x 0 ++ manyL (min (32 - x) m) 100) ∧ (hearG G 1 26 0 5 (manyL m 100)).2 = (m : Int) - min (32 - x) m := by
  rw [h.hear 1 (.inr rfl)]
  have h1 := h.settled 1 (.inr rfl)
  have hn : 1 ≤ (settleG G 1).now := by
    rw [h.settle 1 (.inr rfl)]
    show 1 ≤ nowG G 1
    unfold nowG
    omega
  have ht : (manyL m 100).take (32 - ((manyL x 0).length : Int)).toNat = manyL (min (32 - x) m) 100 := by
    rw [manyL_len, show (32 - (x : Int)).toNat = 32 - x by omega]
    exact manyL_take m 100 (32 - x)
  have hs : AS (manyL x 0 ++ (manyL m 100).take (32 - ((manyL x 0).length : Int)).toNat) := by
    rw [ht]
    exact manyL_app (by omega) (by omega)
  obtain ⟨q1, q2⟩ := h1.add (manyL_as (by omega)) (manyL_as (by omega)) (fun a ha => by obtain ⟨i, _, rfl⟩ := mem_manyL.1 ha; rfl) (manyL_fresh (by omega) (by omega)) hs hn
  rw [ht] at q1
  refine ⟨q1, ?_⟩
  rw [q2, manyL_len, manyL_len]
  omega
theorem field_on (x1 x2 x3 : Value) (w : World) : (Instr.field 26 (.agg #[x1, x2, x3]) 1).run Tryz.prog w = .ok x2 w := by
  have ha : ∀ w, (isAgg 24).run Tryz.prog w = .ok false w := fun w => by simp [isAgg, run_underlying Tryz.underlying24]
  simp [Instr.field, run_underlying Tryz.underlying26, asAgg, part, Sem.run_bind, ha, Result.andThen]
theorem exec_ne_self {ev : Operand → Value} {op : Oper} {x y : Operand} {q : TypeId} (ho : op.op = .binOp .neq 36 x y q) (a : Ad) (ex : ev x = .agg a.c.toArray) (ey : ev y = .agg a.c.toArray) (w : World) :
    (execOp ev op).run Tryz.prog w = .ok (.value (.bool false)) w := by
  simpa using exec_ne_ad ho a a ex ey w
set_option maxRecDepth 100000 in
set_option maxHeartbeats 8000000 in
theorem full_walk (a b : Int) (ha : 0 ≤ a ∧ a < 256) (hb : 0 ≤ b ∧ b < 256) (ex : Bool) (w : World) : Calls Tryz.prog 3 #[.int .u8 a, .int .u8 b, .bool ex] w fun e w' => e = .returned (.bool true) ∧ Mod (fun _ => False) w w' := by
  obtain ⟨k, hk⟩ : ∃ k : Nat, (k : Int) = a.tmod 40 := ⟨(a.tmod 40).toNat, by have := Int.tmod_nonneg 40 ha.1; omega⟩
  obtain ⟨m, hm⟩ : ∃ m : Nat, (m : Int) = b.tmod 40 := ⟨(b.tmod 40).toNat, by have := Int.tmod_nonneg 40 hb.1; omega⟩
  have hk4 : k < 40 := by have := Int.tmod_lt_of_pos a (show (0 : Int) < 40 by decide); omega
  have hm4 : m < 40 := by have := Int.tmod_lt_of_pos b (show (0 : Int) < 40 by decide); omega
  have e1 : a.tmod 40 = k := hk.symm
  have e2 : b.tmod 40 = m := hm.symm
  clear hk hm
  go_enter Tryz.func3, Tryz.ntmps3
  go_wp2_with fail
  refine (gNew false w).mono ?_
  rintro e W1 ⟨p, c, d, rfl, hg, h1, h2, h3, hm⟩
  have HG1 := Lib.hid hg
  have HM1 := Lib.hid hm
  clear hg hm
  cases ex
  case' true =>
    go_wp2_with (first | (go_at_call 10; refine (usual_any _).mono ?_; rintro e W1a ⟨rfl, hm⟩; have HG1a := Lib.hid (HG1.out.keep0 hm); have HM1a : Hid (Mod (fun _ => False) w W1a) := Lib.hid (HM1.out.trans hm fun _ f => f.elim); clear hm))
    refine (hear_q HG1a.out QG.g0 AS.nil (by simp) 0 (.inl rfl) 2 (RowA.nil _ (fun _ => True)) (by simp)).mono ?_
    rintro e W2 ⟨⟨y1, y2, y3, y4, y5, y6, y7, y8, y9, z1, z2, z3, z4, z5, z6, z7, z8, z9, rfl⟩, hg, hm⟩
    have HG2 := Lib.hid hg
    have HM2 : Hid (Mod (fun _ => False) w W2) := Lib.hid (HM1a.out.trans hm fun q hq => .inr (by omega))
    clear hg hm
    have hq2 := QG.all
    obtain ⟨G2, hG2⟩ : ∃ G2, G2 = (hearG (G0 false) 0 26 0 2 []).1 := ⟨_, rfl⟩
    rw [← hG2] at hq2
    have HG2 := Lib.hid (show GAt W2 p c d G2 by rw [hG2]; exact HG2.out)
    clear hG2
  case' false =>
    have hq2 := QG.g0
    obtain ⟨G2, hG2⟩ : ∃ G2, G2 = G0 false := ⟨_, rfl⟩
    rw [← hG2] at hq2
    have HG2 := Lib.hid (show GAt W1 p c d G2 by rw [hG2]; exact HG1.out)
    have HM2 := HM1
    clear hG2
    obtain ⟨W2, hW2⟩ : ∃ W2, W2 = W1 := ⟨_, rfl⟩
    rw [← hW2] at HG2 HM2 ⊢
    clear hW2
  all_goals
    have HQ2 := Lib.hid hq2
    obtain ⟨hq3, hl3⟩ := full_q1 hq2 k hk4
    have HQ3 := Lib.hid hq3
    obtain ⟨hq4, hl4⟩ := full_q2 hq3 (by omega) m hm4
    have HQ4 := Lib.hid hq4
    obtain ⟨x, hx⟩ : ∃ x, x = min 32 k := ⟨_, rfl⟩
    obtain ⟨y, hy⟩ : ∃ y, y = min (32 - x) m := ⟨_, rfl⟩
    rw [← hx] at HQ3
    rw [← hx, ← hy] at HQ4
    have hl4' : (hearG (hearG G2 1 26 0 5 (manyL k 0)).1 1 26 0 5 (manyL m 100)).2 = (m : Int) - y := by rw [hl4, hy, hx]
    have hl3' : (hearG G2 1 26 0 5 (manyL k 0)).2 = (k : Int) - x := by rw [hl3, hx]
    have HL3 := Lib.hid hl3'
    have HL4 := Lib.hid hl4'
    have hxb : x ≤ 32 := by omega
    have HX := Lib.hid hx
    have HY := Lib.hid hy
    clear hq2 hq3 hl3 hq4 hl4 hl3' hl4' hx hy
    go_wp2_with (first
      | (go_at_call 10; refine (usual_any _).mono ?_; rintro e W3 ⟨rfl, hm⟩; have HG3 := Lib.hid (HG2.out.keep0 hm); have HM3 : Hid (Mod (fun _ => False) w W3) := Lib.hid (HM2.out.trans hm fun _ f => f.elim); clear hm)
      | (go_at_call 11; refine (many_any k 0 (by omega) (by omega) _).mono ?_; rintro e W4 ⟨a4, n4, c4, rfl, hr, hm⟩; have HG4 := Lib.hid (HG3.out.keep0 hm); have HR4 := Lib.hid hr; have HM4 : Hid (Mod (fun _ => False) w W4) := Lib.hid (HM3.out.trans hm fun _ f => f.elim); clear hr hm))
    refine (hear_q HG4.out HQ2.out AS.nil (by simp) 1 (.inr rfl) 5 HR4.out.rt (by rw [manyL_len]; omega)).mono ?_
    rintro e W5 ⟨⟨y5_1, y5_2, y5_3, y5_4, y5_5, y5_6, y5_7, y5_8, y5_9, z5_1, z5_2, z5_3, z5_4, z5_5, z5_6, z5_7, z5_8, z5_9, rfl⟩, hg, hm⟩
    have HG5 := Lib.hid hg
    have HM5 : Hid (Mod (fun _ => False) w W5) := Lib.hid (HM4.out.trans hm fun q hq => .inr (by omega))
    clear hg hm
    rw [HL3.out]
    go_wp2_with (first
      | (refine wpList_store_blk rfl _ _ _ rfl W5.heap.size 0 28 [.bool false, .slice none 0 0, .slice none 0 0, .slice none 0 0, .slice none 0 0, .bool false, .slice none 0 0, .bool false] [.bool y5_1, .slice y5_2 y5_3 y5_4, .slice y5_5 y5_6 y5_7, .slice y5_8 y5_9 z5_1, .slice z5_2 z5_3 z5_4, .bool z5_5, .slice z5_6 z5_7 z5_8, .bool z5_9] rfl rfl (Blk.new W5 _ _) (by simp) spSz (by simp [Value.oneCell']) ?_; intro W6 HX6 HY6; have HZ6 : Hid (Mod (fun _ => False) W5 W6) := Lib.hid (((Mod.refl _ _).alloc _).trans HY6.out fun q hq => .inr (by omega)); have HG6 := Lib.hid (HG5.out.keep0 HZ6.out); have HM6 : Hid (Mod (fun _ => False) w W6) := Lib.hid (HM5.out.trans HZ6.out fun _ f => f.elim))
      | (go_at_call 10; refine (usual_any _).mono ?_; rintro e W7 ⟨rfl, hm⟩; have HG7 := Lib.hid (HG6.out.keep0 hm); have HM7 : Hid (Mod (fun _ => False) w W7) := Lib.hid (HM6.out.trans hm fun _ f => f.elim); clear hm)
      | (go_at_call 11; refine (many_any m 100 (by omega) (by omega) _).mono ?_; rintro e W8 ⟨a8, n8, c8, rfl, hr, hm⟩; have HG8 := Lib.hid (HG7.out.keep0 hm); have HR8 := Lib.hid hr; have HM8 : Hid (Mod (fun _ => False) w W8) := Lib.hid (HM7.out.trans hm fun _ f => f.elim); clear hr hm))
    refine (hear_q HG8.out HQ3.out (manyL_as (by omega)) (by rw [manyL_len]; have := HX.out; omega) 1 (.inr rfl) 5 HR8.out.rt (by rw [manyL_len]; omega)).mono ?_
    rintro e W9 ⟨⟨y9_1, y9_2, y9_3, y9_4, y9_5, y9_6, y9_7, y9_8, y9_9, z9_1, z9_2, z9_3, z9_4, z9_5, z9_6, z9_7, z9_8, z9_9, rfl⟩, hg, hm⟩
    have HG9 := Lib.hid hg
    have HM9 : Hid (Mod (fun _ => False) w W9) := Lib.hid (HM8.out.trans hm fun q hq => .inr (by omega))
    clear hg hm
    rw [HL4.out]
    have HAS := Lib.hid (manyL_app (x := x) (y := y) (by have := HX.out; omega) (by have := HY.out; omega))
    have hfd : ∀ (x1 x2 x3 : Value) (w' : World), (Instr.field 26 (.agg #[x1, x2, x3]) 1).run Tryz.prog w' = .ok x2 w' := field_on
    have HLE : Hid ((manyL x 0 ++ manyL y 100).length = x + y) := Lib.hid (by rw [List.length_append, manyL_len, manyL_len])
    by_cases c1 : 32 < k
    · have x32 : x = 32 := by have := HX.out; omega
      subst x32
      by_cases c2 : 32 - 32 < m
      · have y0 : y = 0 := by have := HY.out; omega
        subst y0
        go_wp2_with (first
          | (refine wpList_store_blk rfl _ _ _ rfl W9.heap.size 0 28 [.bool false, .slice none 0 0, .slice none 0 0, .slice none 0 0, .slice none 0 0, .bool false, .slice none 0 0, .bool false] [.bool y9_1, .slice y9_2 y9_3 y9_4, .slice y9_5 y9_6 y9_7, .slice y9_8 y9_9 z9_1, .slice z9_2 z9_3 z9_4, .bool z9_5, .slice z9_6 z9_7 z9_8, .bool z9_9] rfl rfl (Blk.new W9 _ _) (by simp) spSz (by simp [Value.oneCell']) ?_; intro W10 HX10 HY10; have HZ10 : Hid (Mod (fun _ => False) W9 W10) := Lib.hid (((Mod.refl _ _).alloc _).trans HY10.out fun q hq => .inr (by omega)); have HG10 := Lib.hid (HG9.out.keep0 HZ10.out); have HM10 : Hid (Mod (fun _ => False) w W10) := Lib.hid (HM9.out.trans HZ10.out fun _ f => f.elim))
          | (go_at_call 12; refine (gState sort0 HG10.out (HQ4.out.ok HAS.out (by rw [HLE.out]; omega)) 1 (fun L _ _ _ _ _ _ h => HQ4.out.nodues h.clk.tl 1 (.inr rfl))).mono ?_; rintro e W11 ⟨f1, f2, f3, f4, f5, f6, rfl, q1, q2, q3, hm⟩; have HR11 : Hid (RT W11 (.slice f1 f2 f3) _) := Lib.hid (by have := q1; rw [(HQ4.out.settled 1 (.inr rfl)).eon] at this; exact this); have hf2 := HR11.out.len.1; rw [HLE.out] at hf2; have HM11 : Hid (Mod (fun _ => False) w W11) := Lib.hid (HM10.out.trans hm fun q hq => .inr (by omega)); clear q1 q2 q3 hm; subst hf2))
        have HLV := Lib.hid (lives17_any)
        have HXB : Hid (32 < 40) := Lib.hid (by omega)
        have HAT : Hid (∀ j, j < 32 → (manyL 32 0 ++ manyL 0 100)[j]? = some (many1 0 j)) := Lib.hid fun j hj => by
          rw [List.getElem?_append_left (by rw [manyL_len]; exact hj)]
          exact manyL_get hj
        clear hfd
        go_loopw [19] (fun iv wr => ∃ j : Nat, j ≤ 32 ∧ iv = .int .i64 (j : Int) ∧ Mod (fun _ => False) W11 wr) (fun iv _ => 32 - (intOf iv).toNat)
        case atStart => exact ⟨0, Nat.zero_le _, rfl, Mod.refl _ _⟩
        case round =>
          obtain ⟨j, hj, rfl, hmw⟩ := hrel
          have HMW := Lib.hid hmw
          clear hmw
          have hx40 := HXB.out
          by_cases hlt : j < 32
          · have hrd := HR11.out.rd
            obtain ⟨g, o, cap, e, hc1, hc2, hra⟩ := hrd.at (j := j) (by rw [HLE.out]; omega)
            simp only [Value.slice.injEq] at e
            obtain ⟨rfl, -, rfl⟩ := e
            obtain ⟨q, hq⟩ : ∃ q, q = many1 0 j := ⟨_, rfl⟩
            have HQ := Lib.hid hq
            have hS : wr.drew.rangeAt g (o + j * 17) q.c := keepRange HMW.out (hra j q (by rw [HAT.out j hlt, hq]))
            have HQZ := Lib.hid q.c_sz
            clear hq hra hrd hc2
            have q1 : j < 32 + 0 := by omega
            have q2 : (j : Int) < (32 : Int) + (0 : Int) := by omega
            rw [HLE.out] at hc1
            go_wp2_with fail
            refine wp_region_plan [] [(0, 0), (1, 0), (2, 0), (3, 1), (4, 0), (6, 0), (5, 2), (7, 0), (8, 1), (9, 0)] (fun w' : World => w'.rangeAt g (o + j * 17) q.c) (by kernel_rfl) (by kernel_rfl) (fun d v c a w h => by first | (cases d <;> exact h) | exact HP d v c a w h) ?_
            repeat (first | (refine plan_skip rfl rfl ?_; simp only [List.getElem_toArray, List.getElem_cons_succ, List.getElem_cons_zero, Act.put, List.setIfInBounds_toArray, List.set_cons_zero, List.set_cons_succ]) | (refine plan_pass2 rfl rfl ?_; simp only [List.getElem_toArray, List.getElem_cons_succ, List.getElem_cons_zero, Act.put, List.setIfInBounds_toArray, List.set_cons_zero, List.set_cons_succ]) | (refine plan_pass3 rfl rfl ?_; simp only [List.getElem_toArray, List.getElem_cons_succ, List.getElem_cons_zero, Act.put, List.setIfInBounds_toArray, List.set_cons_zero, List.set_cons_succ]) | (refine plan_take (v := ?_) rfl rfl ?_ ?_; rotate_left; (focus (intro w0; go_simp; try with_reducible rfl)); simp only [List.getElem_toArray, List.getElem_cons_succ, List.getElem_cons_zero, Act.put, List.setIfInBounds_toArray, List.set_cons_zero, List.set_cons_succ]) | (refine plan_held (v := ?_) rfl rfl hS ?_ ?_; rotate_left; (focus (intro w0 hSw; (try dsimp only at hSw); go_split_ands; go_simp; try with_reducible rfl)); simp only [List.getElem_toArray, List.getElem_cons_succ, List.getElem_cons_zero, Act.put, List.setIfInBounds_toArray, List.set_cons_zero, List.set_cons_succ])  | (refine plan_skip1 rfl rfl hS ?_; simp only [List.getElem_toArray, List.getElem_cons_succ, List.getElem_cons_zero, Act.put, List.setIfInBounds_toArray, List.set_cons_zero, List.set_cons_succ]))
            (refine plan_held (v := .agg q.c.toArray) rfl rfl hS (fun w0 h0 => exec_load_mid _ _ rfl g (o + j * 17) rfl q.c _ w0 h0 Tryz.underlying36 rfl HQZ.out) ?_; try simp only [List.getElem_toArray, List.getElem_cons_succ, List.getElem_cons_zero, Act.put, List.setIfInBounds_toArray, List.set_cons_zero, List.set_cons_succ])
            repeat (first | (refine plan_skip rfl rfl ?_; simp only [List.getElem_toArray, List.getElem_cons_succ, List.getElem_cons_zero, Act.put, List.setIfInBounds_toArray, List.set_cons_zero, List.set_cons_succ]) | (refine plan_pass2 rfl rfl ?_; simp only [List.getElem_toArray, List.getElem_cons_succ, List.getElem_cons_zero, Act.put, List.setIfInBounds_toArray, List.set_cons_zero, List.set_cons_succ]) | (refine plan_pass3 rfl rfl ?_; simp only [List.getElem_toArray, List.getElem_cons_succ, List.getElem_cons_zero, Act.put, List.setIfInBounds_toArray, List.set_cons_zero, List.set_cons_succ]) | (refine plan_take (v := ?_) rfl rfl ?_ ?_; rotate_left; (focus (intro w0; go_simp; try with_reducible rfl)); simp only [List.getElem_toArray, List.getElem_cons_succ, List.getElem_cons_zero, Act.put, List.setIfInBounds_toArray, List.set_cons_zero, List.set_cons_succ]) | (refine plan_held (v := ?_) rfl rfl hS ?_ ?_; rotate_left; (focus (intro w0 hSw; (try dsimp only at hSw); go_split_ands; go_simp; try with_reducible rfl)); simp only [List.getElem_toArray, List.getElem_cons_succ, List.getElem_cons_zero, Act.put, List.setIfInBounds_toArray, List.set_cons_zero, List.set_cons_succ])  | (refine plan_skip1 rfl rfl hS ?_; simp only [List.getElem_toArray, List.getElem_cons_succ, List.getElem_cons_zero, Act.put, List.setIfInBounds_toArray, List.set_cons_zero, List.set_cons_succ]))
            (refine plan_do rfl rfl fun K hK => ?_; try simp only [List.getElem_toArray, List.getElem_cons_succ, List.getElem_cons_zero])
            go_simp
            refine (many_any 32 0 (by omega) (by omega) _).mono ?_
            rintro e W12 ⟨a12, n12, c12, rfl, hr, hm⟩
            have hrd := hr.rd
            obtain ⟨g2, o2, cap2, e, hc3, hc4, hra⟩ := hrd.at (j := j) (by rw [manyL_len]; omega)
            rw [manyL_len] at e hc3
            simp only [Value.slice.injEq] at e
            obtain ⟨rfl, rfl, rfl⟩ := e
            have hS2 : W12.rangeAt g (o + j * 17) q.c ∧ W12.rangeAt g2 (o2 + j * 17) q.c := ⟨keepRange hm hS, hra j q (by rw [HQ.out]; exact manyL_get hlt)⟩
            have HM12 : Hid (Mod (fun _ => False) W11 W12) := Lib.hid (HMW.out.drew.trans hm fun _ f => f.elim)
            refine hK _ _ hS2.1 ?_
            clear hK K hm hr hrd hra hS
            try simp only [List.getElem_toArray, List.getElem_cons_succ, List.getElem_cons_zero, Act.put, List.setIfInBounds_toArray, List.set_cons_zero, List.set_cons_succ]
            repeat (first | (refine plan_skip rfl rfl ?_; simp only [List.getElem_toArray, List.getElem_cons_succ, List.getElem_cons_zero, Act.put, List.setIfInBounds_toArray, List.set_cons_zero, List.set_cons_succ]) | (refine plan_pass2 rfl rfl ?_; simp only [List.getElem_toArray, List.getElem_cons_succ, List.getElem_cons_zero, Act.put, List.setIfInBounds_toArray, List.set_cons_zero, List.set_cons_succ]) | (refine plan_pass3 rfl rfl ?_; simp only [List.getElem_toArray, List.getElem_cons_succ, List.getElem_cons_zero, Act.put, List.setIfInBounds_toArray, List.set_cons_zero, List.set_cons_succ]) | (refine plan_take (v := ?_) rfl rfl ?_ ?_; rotate_left; (focus (intro w0; go_simp; try with_reducible rfl)); simp only [List.getElem_toArray, List.getElem_cons_succ, List.getElem_cons_zero, Act.put, List.setIfInBounds_toArray, List.set_cons_zero, List.set_cons_succ]) | (refine plan_held (v := ?_) rfl rfl hS2.1 ?_ ?_; rotate_left; (focus (intro w0 hSw; (try dsimp only at hSw); go_split_ands; go_simp; try with_reducible rfl)); simp only [List.getElem_toArray, List.getElem_cons_succ, List.getElem_cons_zero, Act.put, List.setIfInBounds_toArray, List.set_cons_zero, List.set_cons_succ])  | (refine plan_skip1 rfl rfl hS2.1 ?_; simp only [List.getElem_toArray, List.getElem_cons_succ, List.getElem_cons_zero, Act.put, List.setIfInBounds_toArray, List.set_cons_zero, List.set_cons_succ]))
            refine plan_more (v := .agg q.c.toArray) (fun w' : World => w'.rangeAt g (o + j * 17) q.c ∧ w'.rangeAt g2 (o2 + j * 17) q.c) (fun _ h => h.1) rfl rfl hS2 (fun w0 h0 => exec_load_mid _ _ rfl g2 (o2 + j * 17) rfl q.c _ w0 h0.2 Tryz.underlying36 rfl HQZ.out) ?_
            try simp only [List.getElem_toArray, List.getElem_cons_succ, List.getElem_cons_zero, Act.put, List.setIfInBounds_toArray, List.set_cons_zero, List.set_cons_succ]
            refine plan_take (v := .bool false) rfl rfl (exec_ne_self rfl q rfl rfl) ?_
            try simp only [List.getElem_toArray, List.getElem_cons_succ, List.getElem_cons_zero, Act.put, List.setIfInBounds_toArray, List.set_cons_zero, List.set_cons_succ]
            refine plan_nil ?_
            go_wp2
            go_roundw
            case rel => exact ⟨j + 1, by omega, by go_num, HM12.out⟩
            case measure => simp [intOf]; omega
          · obtain rfl : j = 32 := by omega
            have HME : Hid (Mod (fun _ => False) w wr) := Lib.hid (HM11.out.trans HMW.out fun _ f => f.elim)
            go_wp2_with (go_at_call 13; refine (HLV.out _).mono ?_; rintro e W13 ⟨rfl, hm⟩; have HM13 : Hid (Mod (fun _ => False) w W13) := Lib.hid (HME.out.trans hm fun _ f => f.elim))
            go_ret
            exact ⟨rfl, HM13.out⟩
      · have y0 : y = m := by have := HY.out; omega
        subst y0
        go_wp2_with (first
          | (refine wpList_store_blk rfl _ _ _ rfl W9.heap.size 0 28 [.bool false, .slice none 0 0, .slice none 0 0, .slice none 0 0, .slice none 0 0, .bool false, .slice none 0 0, .bool false] [.bool y9_1, .slice y9_2 y9_3 y9_4, .slice y9_5 y9_6 y9_7, .slice y9_8 y9_9 z9_1, .slice z9_2 z9_3 z9_4, .bool z9_5, .slice z9_6 z9_7 z9_8, .bool z9_9] rfl rfl (Blk.new W9 _ _) (by simp) spSz (by simp [Value.oneCell']) ?_; intro W10 HX10 HY10; have HZ10 : Hid (Mod (fun _ => False) W9 W10) := Lib.hid (((Mod.refl _ _).alloc _).trans HY10.out fun q hq => .inr (by omega)); have HG10 := Lib.hid (HG9.out.keep0 HZ10.out); have HM10 : Hid (Mod (fun _ => False) w W10) := Lib.hid (HM9.out.trans HZ10.out fun _ f => f.elim))
          | (go_at_call 12; refine (gState sort0 HG10.out (HQ4.out.ok HAS.out (by rw [HLE.out]; omega)) 1 (fun L _ _ _ _ _ _ h => HQ4.out.nodues h.clk.tl 1 (.inr rfl))).mono ?_; rintro e W11 ⟨f1, f2, f3, f4, f5, f6, rfl, q1, q2, q3, hm⟩; have HR11 : Hid (RT W11 (.slice f1 f2 f3) _) := Lib.hid (by have := q1; rw [(HQ4.out.settled 1 (.inr rfl)).eon] at this; exact this); have hf2 := HR11.out.len.1; rw [HLE.out] at hf2; have HM11 : Hid (Mod (fun _ => False) w W11) := Lib.hid (HM10.out.trans hm fun q hq => .inr (by omega)); clear q1 q2 q3 hm; subst hf2))
        obtain ⟨ln, hln⟩ : ∃ ln, ln = 32 + y := ⟨_, rfl⟩
        rw [← hln] at HR11 ⊢
        have HLN := Lib.hid hln
        clear hln
        have HLV := Lib.hid (lives17_any)
        have HXB : Hid (32 < 40) := Lib.hid (by omega)
        have HAT : Hid (∀ j, j < 32 → (manyL 32 0 ++ manyL y 100)[j]? = some (many1 0 j)) := Lib.hid fun j hj => by
          rw [List.getElem?_append_left (by rw [manyL_len]; exact hj)]
          exact manyL_get hj
        clear hfd
        go_loopw [19] (fun iv wr => ∃ j : Nat, j ≤ 32 ∧ iv = .int .i64 (j : Int) ∧ Mod (fun _ => False) W11 wr) (fun iv _ => 32 - (intOf iv).toNat)
        case atStart => exact ⟨0, Nat.zero_le _, rfl, Mod.refl _ _⟩
        case round =>
          obtain ⟨j, hj, rfl, hmw⟩ := hrel
          have HMW := Lib.hid hmw
          clear hmw
          have hx40 := HXB.out
          by_cases hlt : j < 32
          · have hrd := HR11.out.rd
            obtain ⟨g, o, cap, e, hc1, hc2, hra⟩ := hrd.at (j := j) (by rw [HLE.out]; omega)
            simp only [Value.slice.injEq] at e
            obtain ⟨rfl, -, rfl⟩ := e
            obtain ⟨q, hq⟩ : ∃ q, q = many1 0 j := ⟨_, rfl⟩
            have HQ := Lib.hid hq
            have hS : wr.drew.rangeAt g (o + j * 17) q.c := keepRange HMW.out (hra j q (by rw [HAT.out j hlt, hq]))
            have HQZ := Lib.hid q.c_sz
            clear hq hra hrd hc2
            have q1 : j < ln := by have := HLN.out; omega
            have q2 : (j : Int) < (ln : Int) := by omega
            clear hc1
            go_wp2_with fail
            refine wp_region_plan [] [(0, 0), (1, 0), (2, 0), (3, 1), (4, 0), (6, 0), (5, 2), (7, 0), (8, 1), (9, 0)] (fun w' : World => w'.rangeAt g (o + j * 17) q.c) (by kernel_rfl) (by kernel_rfl) (fun d v c a w h => by first | (cases d <;> exact h) | exact HP d v c a w h) ?_
            repeat (first | (refine plan_skip rfl rfl ?_; simp only [List.getElem_toArray, List.getElem_cons_succ, List.getElem_cons_zero, Act.put, List.setIfInBounds_toArray, List.set_cons_zero, List.set_cons_succ]) | (refine plan_pass2 rfl rfl ?_; simp only [List.getElem_toArray, List.getElem_cons_succ, List.getElem_cons_zero, Act.put, List.setIfInBounds_toArray, List.set_cons_zero, List.set_cons_succ]) | (refine plan_pass3 rfl rfl ?_; simp only [List.getElem_toArray, List.getElem_cons_succ, List.getElem_cons_zero, Act.put, List.setIfInBounds_toArray, List.set_cons_zero, List.set_cons_succ]) | (refine plan_take (v := ?_) rfl rfl ?_ ?_; rotate_left; (focus (intro w0; go_simp; try with_reducible rfl)); simp only [List.getElem_toArray, List.getElem_cons_succ, List.getElem_cons_zero, Act.put, List.setIfInBounds_toArray, List.set_cons_zero, List.set_cons_succ]) | (refine plan_held (v := ?_) rfl rfl hS ?_ ?_; rotate_left; (focus (intro w0 hSw; (try dsimp only at hSw); go_split_ands; go_simp; try with_reducible rfl)); simp only [List.getElem_toArray, List.getElem_cons_succ, List.getElem_cons_zero, Act.put, List.setIfInBounds_toArray, List.set_cons_zero, List.set_cons_succ])  | (refine plan_skip1 rfl rfl hS ?_; simp only [List.getElem_toArray, List.getElem_cons_succ, List.getElem_cons_zero, Act.put, List.setIfInBounds_toArray, List.set_cons_zero, List.set_cons_succ]))
            (refine plan_held (v := .agg q.c.toArray) rfl rfl hS (fun w0 h0 => exec_load_mid _ _ rfl g (o + j * 17) rfl q.c _ w0 h0 Tryz.underlying36 rfl HQZ.out) ?_; try simp only [List.getElem_toArray, List.getElem_cons_succ, List.getElem_cons_zero, Act.put, List.setIfInBounds_toArray, List.set_cons_zero, List.set_cons_succ])
            repeat (first | (refine plan_skip rfl rfl ?_; simp only [List.getElem_toArray, List.getElem_cons_succ, List.getElem_cons_zero, Act.put, List.setIfInBounds_toArray, List.set_cons_zero, List.set_cons_succ]) | (refine plan_pass2 rfl rfl ?_; simp only [List.getElem_toArray, List.getElem_cons_succ, List.getElem_cons_zero, Act.put, List.setIfInBounds_toArray, List.set_cons_zero, List.set_cons_succ]) | (refine plan_pass3 rfl rfl ?_; simp only [List.getElem_toArray, List.getElem_cons_succ, List.getElem_cons_zero, Act.put, List.setIfInBounds_toArray, List.set_cons_zero, List.set_cons_succ]) | (refine plan_take (v := ?_) rfl rfl ?_ ?_; rotate_left; (focus (intro w0; go_simp; try with_reducible rfl)); simp only [List.getElem_toArray, List.getElem_cons_succ, List.getElem_cons_zero, Act.put, List.setIfInBounds_toArray, List.set_cons_zero, List.set_cons_succ]) | (refine plan_held (v := ?_) rfl rfl hS ?_ ?_; rotate_left; (focus (intro w0 hSw; (try dsimp only at hSw); go_split_ands; go_simp; try with_reducible rfl)); simp only [List.getElem_toArray, List.getElem_cons_succ, List.getElem_cons_zero, Act.put, List.setIfInBounds_toArray, List.set_cons_zero, List.set_cons_succ])  | (refine plan_skip1 rfl rfl hS ?_; simp only [List.getElem_toArray, List.getElem_cons_succ, List.getElem_cons_zero, Act.put, List.setIfInBounds_toArray, List.set_cons_zero, List.set_cons_succ]))
            (refine plan_do rfl rfl fun K hK => ?_; try simp only [List.getElem_toArray, List.getElem_cons_succ, List.getElem_cons_zero])
            go_simp
            refine (many_any 32 0 (by omega) (by omega) _).mono ?_
            rintro e W12 ⟨a12, n12, c12, rfl, hr, hm⟩
            have hrd := hr.rd
            obtain ⟨g2, o2, cap2, e, hc3, hc4, hra⟩ := hrd.at (j := j) (by rw [manyL_len]; omega)
            rw [manyL_len] at e hc3
            simp only [Value.slice.injEq] at e
            obtain ⟨rfl, rfl, rfl⟩ := e
            have hS2 : W12.rangeAt g (o + j * 17) q.c ∧ W12.rangeAt g2 (o2 + j * 17) q.c := ⟨keepRange hm hS, hra j q (by rw [HQ.out]; exact manyL_get hlt)⟩
            have HM12 : Hid (Mod (fun _ => False) W11 W12) := Lib.hid (HMW.out.drew.trans hm fun _ f => f.elim)
            refine hK _ _ hS2.1 ?_
            clear hK K hm hr hrd hra hS
            try simp only [List.getElem_toArray, List.getElem_cons_succ, List.getElem_cons_zero, Act.put, List.setIfInBounds_toArray, List.set_cons_zero, List.set_cons_succ]
            repeat (first | (refine plan_skip rfl rfl ?_; simp only [List.getElem_toArray, List.getElem_cons_succ, List.getElem_cons_zero, Act.put, List.setIfInBounds_toArray, List.set_cons_zero, List.set_cons_succ]) | (refine plan_pass2 rfl rfl ?_; simp only [List.getElem_toArray, List.getElem_cons_succ, List.getElem_cons_zero, Act.put, List.setIfInBounds_toArray, List.set_cons_zero, List.set_cons_succ]) | (refine plan_pass3 rfl rfl ?_; simp only [List.getElem_toArray, List.getElem_cons_succ, List.getElem_cons_zero, Act.put, List.setIfInBounds_toArray, List.set_cons_zero, List.set_cons_succ]) | (refine plan_take (v := ?_) rfl rfl ?_ ?_; rotate_left; (focus (intro w0; go_simp; try with_reducible rfl)); simp only [List.getElem_toArray, List.getElem_cons_succ, List.getElem_cons_zero, Act.put, List.setIfInBounds_toArray, List.set_cons_zero, List.set_cons_succ]) | (refine plan_held (v := ?_) rfl rfl hS2.1 ?_ ?_; rotate_left; (focus (intro w0 hSw; (try dsimp only at hSw); go_split_ands; go_simp; try with_reducible rfl)); simp only [List.getElem_toArray, List.getElem_cons_succ, List.getElem_cons_zero, Act.put, List.setIfInBounds_toArray, List.set_cons_zero, List.set_cons_succ])  | (refine plan_skip1 rfl rfl hS2.1 ?_; simp only [List.getElem_toArray, List.getElem_cons_succ, List.getElem_cons_zero, Act.put, List.setIfInBounds_toArray, List.set_cons_zero, List.set_cons_succ]))
            refine plan_more (v := .agg q.c.toArray) (fun w' : World => w'.rangeAt g (o + j * 17) q.c ∧ w'.rangeAt g2 (o2 + j * 17) q.c) (fun _ h => h.1) rfl rfl hS2 (fun w0 h0 => exec_load_mid _ _ rfl g2 (o2 + j * 17) rfl q.c _ w0 h0.2 Tryz.underlying36 rfl HQZ.out) ?_
            try simp only [List.getElem_toArray, List.getElem_cons_succ, List.getElem_cons_zero, Act.put, List.setIfInBounds_toArray, List.set_cons_zero, List.set_cons_succ]
            refine plan_take (v := .bool false) rfl rfl (exec_ne_self rfl q rfl rfl) ?_
            try simp only [List.getElem_toArray, List.getElem_cons_succ, List.getElem_cons_zero, Act.put, List.setIfInBounds_toArray, List.set_cons_zero, List.set_cons_succ]
            refine plan_nil ?_
            go_wp2
            go_roundw
            case rel => exact ⟨j + 1, by omega, by go_num, HM12.out⟩
            case measure => simp [intOf]; omega
          · obtain rfl : j = 32 := by omega
            have HME : Hid (Mod (fun _ => False) w wr) := Lib.hid (HM11.out.trans HMW.out fun _ f => f.elim)
            go_wp2_with (go_at_call 13; refine (HLV.out _).mono ?_; rintro e W13 ⟨rfl, hm⟩; have HM13 : Hid (Mod (fun _ => False) w W13) := Lib.hid (HME.out.trans hm fun _ f => f.elim))
            go_ret
            exact ⟨rfl, HM13.out⟩
    · have xk : x = k := by have := HX.out; omega
      subst xk
      by_cases c2 : 32 - x < m
      · have hy : (y : Int) = 32 - x := by have := HY.out; omega
        have c2' : (32 : Int) - x < m := by omega
        go_wp2_with (first
          | (refine wpList_store_blk rfl _ _ _ rfl W9.heap.size 0 28 [.bool false, .slice none 0 0, .slice none 0 0, .slice none 0 0, .slice none 0 0, .bool false, .slice none 0 0, .bool false] [.bool y9_1, .slice y9_2 y9_3 y9_4, .slice y9_5 y9_6 y9_7, .slice y9_8 y9_9 z9_1, .slice z9_2 z9_3 z9_4, .bool z9_5, .slice z9_6 z9_7 z9_8, .bool z9_9] rfl rfl (Blk.new W9 _ _) (by simp) spSz (by simp [Value.oneCell']) ?_; intro W10 HX10 HY10; have HZ10 : Hid (Mod (fun _ => False) W9 W10) := Lib.hid (((Mod.refl _ _).alloc _).trans HY10.out fun q hq => .inr (by omega)); have HG10 := Lib.hid (HG9.out.keep0 HZ10.out); have HM10 : Hid (Mod (fun _ => False) w W10) := Lib.hid (HM9.out.trans HZ10.out fun _ f => f.elim))
          | (go_at_call 12; refine (gState sort0 HG10.out (HQ4.out.ok HAS.out (by rw [HLE.out]; omega)) 1 (fun L _ _ _ _ _ _ h => HQ4.out.nodues h.clk.tl 1 (.inr rfl))).mono ?_; rintro e W11 ⟨f1, f2, f3, f4, f5, f6, rfl, q1, q2, q3, hm⟩; have HR11 : Hid (RT W11 (.slice f1 f2 f3) _) := Lib.hid (by have := q1; rw [(HQ4.out.settled 1 (.inr rfl)).eon] at this; exact this); have hf2 := HR11.out.len.1; rw [HLE.out] at hf2; have HM11 : Hid (Mod (fun _ => False) w W11) := Lib.hid (HM10.out.trans hm fun q hq => .inr (by omega)); clear q1 q2 q3 hm; subst hf2))
        obtain ⟨ln, hln⟩ : ∃ ln, ln = x + y := ⟨_, rfl⟩
        rw [← hln] at HR11 ⊢
        have HLN := Lib.hid hln
        clear hln
        have HLV := Lib.hid (lives17_any)
        have HXB : Hid (x < 40) := Lib.hid (by omega)
        have HAT : Hid (∀ j, j < x → (manyL x 0 ++ manyL y 100)[j]? = some (many1 0 j)) := Lib.hid fun j hj => by
          rw [List.getElem?_append_left (by rw [manyL_len]; exact hj)]
          exact manyL_get hj
        clear hfd
        go_loopw [19] (fun iv wr => ∃ j : Nat, j ≤ x ∧ iv = .int .i64 (j : Int) ∧ Mod (fun _ => False) W11 wr) (fun iv _ => x - (intOf iv).toNat)
        case atStart => exact ⟨0, Nat.zero_le _, rfl, Mod.refl _ _⟩
        case round =>
          obtain ⟨j, hj, rfl, hmw⟩ := hrel
          have HMW := Lib.hid hmw
          clear hmw
          have hx40 := HXB.out
          by_cases hlt : j < x
          · have hrd := HR11.out.rd
            obtain ⟨g, o, cap, e, hc1, hc2, hra⟩ := hrd.at (j := j) (by rw [HLE.out]; omega)
            simp only [Value.slice.injEq] at e
            obtain ⟨rfl, -, rfl⟩ := e
            obtain ⟨q, hq⟩ : ∃ q, q = many1 0 j := ⟨_, rfl⟩
            have HQ := Lib.hid hq
            have hS : wr.drew.rangeAt g (o + j * 17) q.c := keepRange HMW.out (hra j q (by rw [HAT.out j hlt, hq]))
            have HQZ := Lib.hid q.c_sz
            clear hq hra hrd hc2
            have q1 : j < ln := by have := HLN.out; omega
            have q2 : (j : Int) < (ln : Int) := by omega
            clear hc1
            go_wp2_with fail
            refine wp_region_plan [] [(0, 0), (1, 0), (2, 0), (3, 1), (4, 0), (6, 0), (5, 2), (7, 0), (8, 1), (9, 0)] (fun w' : World => w'.rangeAt g (o + j * 17) q.c) (by kernel_rfl) (by kernel_rfl) (fun d v c a w h => by first | (cases d <;> exact h) | exact HP d v c a w h) ?_
            repeat (first | (refine plan_skip rfl rfl ?_; simp only [List.getElem_toArray, List.getElem_cons_succ, List.getElem_cons_zero, Act.put, List.setIfInBounds_toArray, List.set_cons_zero, List.set_cons_succ]) | (refine plan_pass2 rfl rfl ?_; simp only [List.getElem_toArray, List.getElem_cons_succ, List.getElem_cons_zero, Act.put, List.setIfInBounds_toArray, List.set_cons_zero, List.set_cons_succ]) | (refine plan_pass3 rfl rfl ?_; simp only [List.getElem_toArray, List.getElem_cons_succ, List.getElem_cons_zero, Act.put, List.setIfInBounds_toArray, List.set_cons_zero, List.set_cons_succ]) | (refine plan_take (v := ?_) rfl rfl ?_ ?_; rotate_left; (focus (intro w0; go_simp; try with_reducible rfl)); simp only [List.getElem_toArray, List.getElem_cons_succ, List.getElem_cons_zero, Act.put, List.setIfInBounds_toArray, List.set_cons_zero, List.set_cons_succ]) | (refine plan_held (v := ?_) rfl rfl hS ?_ ?_; rotate_left; (focus (intro w0 hSw; (try dsimp only at hSw); go_split_ands; go_simp; try with_reducible rfl)); simp only [List.getElem_toArray, List.getElem_cons_succ, List.getElem_cons_zero, Act.put, List.setIfInBounds_toArray, List.set_cons_zero, List.set_cons_succ])  | (refine plan_skip1 rfl rfl hS ?_; simp only [List.getElem_toArray, List.getElem_cons_succ, List.getElem_cons_zero, Act.put, List.setIfInBounds_toArray, List.set_cons_zero, List.set_cons_succ]))
            (refine plan_held (v := .agg q.c.toArray) rfl rfl hS (fun w0 h0 => exec_load_mid _ _ rfl g (o + j * 17) rfl q.c _ w0 h0 Tryz.underlying36 rfl HQZ.out) ?_; try simp only [List.getElem_toArray, List.getElem_cons_succ, List.getElem_cons_zero, Act.put, List.setIfInBounds_toArray, List.set_cons_zero, List.set_cons_succ])
            repeat (first | (refine plan_skip rfl rfl ?_; simp only [List.getElem_toArray, List.getElem_cons_succ, List.getElem_cons_zero, Act.put, List.setIfInBounds_toArray, List.set_cons_zero, List.set_cons_succ]) | (refine plan_pass2 rfl rfl ?_; simp only [List.getElem_toArray, List.getElem_cons_succ, List.getElem_cons_zero, Act.put, List.setIfInBounds_toArray, List.set_cons_zero, List.set_cons_succ]) | (refine plan_pass3 rfl rfl ?_; simp only [List.getElem_toArray, List.getElem_cons_succ, List.getElem_cons_zero, Act.put, List.setIfInBounds_toArray, List.set_cons_zero, List.set_cons_succ]) | (refine plan_take (v := ?_) rfl rfl ?_ ?_; rotate_left; (focus (intro w0; go_simp; try with_reducible rfl)); simp only [List.getElem_toArray, List.getElem_cons_succ, List.getElem_cons_zero, Act.put, List.setIfInBounds_toArray, List.set_cons_zero, List.set_cons_succ]) | (refine plan_held (v := ?_) rfl rfl hS ?_ ?_; rotate_left; (focus (intro w0 hSw; (try dsimp only at hSw); go_split_ands; go_simp; try with_reducible rfl)); simp only [List.getElem_toArray, List.getElem_cons_succ, List.getElem_cons_zero, Act.put, List.setIfInBounds_toArray, List.set_cons_zero, List.set_cons_succ])  | (refine plan_skip1 rfl rfl hS ?_; simp only [List.getElem_toArray, List.getElem_cons_succ, List.getElem_cons_zero, Act.put, List.setIfInBounds_toArray, List.set_cons_zero, List.set_cons_succ]))
            (refine plan_do rfl rfl fun K hK => ?_; try simp only [List.getElem_toArray, List.getElem_cons_succ, List.getElem_cons_zero])
            go_simp
            refine (many_any x 0 (by omega) (by omega) _).mono ?_
            rintro e W12 ⟨a12, n12, c12, rfl, hr, hm⟩
            have hrd := hr.rd
            obtain ⟨g2, o2, cap2, e, hc3, hc4, hra⟩ := hrd.at (j := j) (by rw [manyL_len]; omega)
            rw [manyL_len] at e hc3
            simp only [Value.slice.injEq] at e
            obtain ⟨rfl, rfl, rfl⟩ := e
            have hS2 : W12.rangeAt g (o + j * 17) q.c ∧ W12.rangeAt g2 (o2 + j * 17) q.c := ⟨keepRange hm hS, hra j q (by rw [HQ.out]; exact manyL_get hlt)⟩
            have HM12 : Hid (Mod (fun _ => False) W11 W12) := Lib.hid (HMW.out.drew.trans hm fun _ f => f.elim)
            refine hK _ _ hS2.1 ?_
            clear hK K hm hr hrd hra hS
            try simp only [List.getElem_toArray, List.getElem_cons_succ, List.getElem_cons_zero, Act.put, List.setIfInBounds_toArray, List.set_cons_zero, List.set_cons_succ]
            repeat (first | (refine plan_skip rfl rfl ?_; simp only [List.getElem_toArray, List.getElem_cons_succ, List.getElem_cons_zero, Act.put, List.setIfInBounds_toArray, List.set_cons_zero, List.set_cons_succ]) | (refine plan_pass2 rfl rfl ?_; simp only [List.getElem_toArray, List.getElem_cons_succ, List.getElem_cons_zero, Act.put, List.setIfInBounds_toArray, List.set_cons_zero, List.set_cons_succ]) | (refine plan_pass3 rfl rfl ?_; simp only [List.getElem_toArray, List.getElem_cons_succ, List.getElem_cons_zero, Act.put, List.setIfInBounds_toArray, List.set_cons_zero, List.set_cons_succ]) | (refine plan_take (v := ?_) rfl rfl ?_ ?_; rotate_left; (focus (intro w0; go_simp; try with_reducible rfl)); simp only [List.getElem_toArray, List.getElem_cons_succ, List.getElem_cons_zero, Act.put, List.setIfInBounds_toArray, List.set_cons_zero, List.set_cons_succ]) | (refine plan_held (v := ?_) rfl rfl hS2.1 ?_ ?_; rotate_left; (focus (intro w0 hSw; (try dsimp only at hSw); go_split_ands; go_simp; try with_reducible rfl)); simp only [List.getElem_toArray, List.getElem_cons_succ, List.getElem_cons_zero, Act.put, List.setIfInBounds_toArray, List.set_cons_zero, List.set_cons_succ])  | (refine plan_skip1 rfl rfl hS2.1 ?_; simp only [List.getElem_toArray, List.getElem_cons_succ, List.getElem_cons_zero, Act.put, List.setIfInBounds_toArray, List.set_cons_zero, List.set_cons_succ]))
            refine plan_more (v := .agg q.c.toArray) (fun w' : World => w'.rangeAt g (o + j * 17) q.c ∧ w'.rangeAt g2 (o2 + j * 17) q.c) (fun _ h => h.1) rfl rfl hS2 (fun w0 h0 => exec_load_mid _ _ rfl g2 (o2 + j * 17) rfl q.c _ w0 h0.2 Tryz.underlying36 rfl HQZ.out) ?_
            try simp only [List.getElem_toArray, List.getElem_cons_succ, List.getElem_cons_zero, Act.put, List.setIfInBounds_toArray, List.set_cons_zero, List.set_cons_succ]
            refine plan_take (v := .bool false) rfl rfl (exec_ne_self rfl q rfl rfl) ?_
            try simp only [List.getElem_toArray, List.getElem_cons_succ, List.getElem_cons_zero, Act.put, List.setIfInBounds_toArray, List.set_cons_zero, List.set_cons_succ]
            refine plan_nil ?_
            go_wp2
            go_roundw
            case rel => exact ⟨j + 1, by omega, by go_num, HM12.out⟩
            case measure => simp [intOf]; omega
          · obtain rfl : j = x := by omega
            have HME : Hid (Mod (fun _ => False) w wr) := Lib.hid (HM11.out.trans HMW.out fun _ f => f.elim)
            go_wp2_with (go_at_call 13; refine (HLV.out _).mono ?_; rintro e W13 ⟨rfl, hm⟩; have HM13 : Hid (Mod (fun _ => False) w W13) := Lib.hid (HME.out.trans hm fun _ f => f.elim))
            go_ret
            exact ⟨rfl, HM13.out⟩
      · have ym : y = m := by have := HY.out; omega
        subst ym
        go_wp2_with (first
          | (refine wpList_store_blk rfl _ _ _ rfl W9.heap.size 0 28 [.bool false, .slice none 0 0, .slice none 0 0, .slice none 0 0, .slice none 0 0, .bool false, .slice none 0 0, .bool false] [.bool y9_1, .slice y9_2 y9_3 y9_4, .slice y9_5 y9_6 y9_7, .slice y9_8 y9_9 z9_1, .slice z9_2 z9_3 z9_4, .bool z9_5, .slice z9_6 z9_7 z9_8, .bool z9_9] rfl rfl (Blk.new W9 _ _) (by simp) spSz (by simp [Value.oneCell']) ?_; intro W10 HX10 HY10; have HZ10 : Hid (Mod (fun _ => False) W9 W10) := Lib.hid (((Mod.refl _ _).alloc _).trans HY10.out fun q hq => .inr (by omega)); have HG10 := Lib.hid (HG9.out.keep0 HZ10.out); have HM10 : Hid (Mod (fun _ => False) w W10) := Lib.hid (HM9.out.trans HZ10.out fun _ f => f.elim))
          | (go_at_call 12; refine (gState sort0 HG10.out (HQ4.out.ok HAS.out (by rw [HLE.out]; omega)) 1 (fun L _ _ _ _ _ _ h => HQ4.out.nodues h.clk.tl 1 (.inr rfl))).mono ?_; rintro e W11 ⟨f1, f2, f3, f4, f5, f6, rfl, q1, q2, q3, hm⟩; have HR11 : Hid (RT W11 (.slice f1 f2 f3) _) := Lib.hid (by have := q1; rw [(HQ4.out.settled 1 (.inr rfl)).eon] at this; exact this); have hf2 := HR11.out.len.1; rw [HLE.out] at hf2; have HM11 : Hid (Mod (fun _ => False) w W11) := Lib.hid (HM10.out.trans hm fun q hq => .inr (by omega)); clear q1 q2 q3 hm; subst hf2))
        obtain ⟨ln, hln⟩ : ∃ ln, ln = x + y := ⟨_, rfl⟩
        rw [← hln] at HR11 ⊢
        have HLN := Lib.hid hln
        clear hln
        have HLV := Lib.hid (lives17_any)
        have HXB : Hid (x < 40) := Lib.hid (by omega)
        have HAT : Hid (∀ j, j < x → (manyL x 0 ++ manyL y 100)[j]? = some (many1 0 j)) := Lib.hid fun j hj => by
          rw [List.getElem?_append_left (by rw [manyL_len]; exact hj)]
          exact manyL_get hj
        clear hfd
        go_loopw [19] (fun iv wr => ∃ j : Nat, j ≤ x ∧ iv = .int .i64 (j : Int) ∧ Mod (fun _ => False) W11 wr) (fun iv _ => x - (intOf iv).toNat)
        case atStart => exact ⟨0, Nat.zero_le _, rfl, Mod.refl _ _⟩
        case round =>
          obtain ⟨j, hj, rfl, hmw⟩ := hrel
          have HMW := Lib.hid hmw
          clear hmw
          have hx40 := HXB.out
          by_cases hlt : j < x
          · have hrd := HR11.out.rd
            obtain ⟨g, o, cap, e, hc1, hc2, hra⟩ := hrd.at (j := j) (by rw [HLE.out]; omega)
            simp only [Value.slice.injEq] at e
            obtain ⟨rfl, -, rfl⟩ := e
            obtain ⟨q, hq⟩ : ∃ q, q = many1 0 j := ⟨_, rfl⟩
            have HQ := Lib.hid hq
            have hS : wr.drew.rangeAt g (o + j * 17) q.c := keepRange HMW.out (hra j q (by rw [HAT.out j hlt, hq]))
            have HQZ := Lib.hid q.c_sz
            clear hq hra hrd hc2
            have q1 : j < ln := by have := HLN.out; omega
            have q2 : (j : Int) < (ln : Int) := by omega
            clear hc1
            go_wp2_with fail
            refine wp_region_plan [] [(0, 0), (1, 0), (2, 0), (3, 1), (4, 0), (6, 0), (5, 2), (7, 0), (8, 1), (9, 0)] (fun w' : World => w'.rangeAt g (o + j * 17) q.c) (by kernel_rfl) (by kernel_rfl) (fun d v c a w h => by first | (cases d <;> exact h) | exact HP d v c a w h) ?_
            repeat (first | (refine plan_skip rfl rfl ?_; simp only [List.getElem_toArray, List.getElem_cons_succ, List.getElem_cons_zero, Act.put, List.setIfInBounds_toArray, List.set_cons_zero, List.set_cons_succ]) | (refine plan_pass2 rfl rfl ?_; simp only [List.getElem_toArray, List.getElem_cons_succ, List.getElem_cons_zero, Act.put, List.setIfInBounds_toArray, List.set_cons_zero, List.set_cons_succ]) | (refine plan_pass3 rfl rfl ?_; simp only [List.getElem_toArray, List.getElem_cons_succ, List.getElem_cons_zero, Act.put, List.setIfInBounds_toArray, List.set_cons_zero, List.set_cons_succ]) | (refine plan_take (v := ?_) rfl rfl ?_ ?_; rotate_left; (focus (intro w0; go_simp; try with_reducible rfl)); simp only [List.getElem_toArray, List.getElem_cons_succ, List.getElem_cons_zero, Act.put, List.setIfInBounds_toArray, List.set_cons_zero, List.set_cons_succ]) | (refine plan_held (v := ?_) rfl rfl hS ?_ ?_; rotate_left; (focus (intro w0 hSw; (try dsimp only at hSw); go_split_ands; go_simp; try with_reducible rfl)); simp only [List.getElem_toArray, List.getElem_cons_succ, List.getElem_cons_zero, Act.put, List.setIfInBounds_toArray, List.set_cons_zero, List.set_cons_succ])  | (refine plan_skip1 rfl rfl hS ?_; simp only [List.getElem_toArray, List.getElem_cons_succ, List.getElem_cons_zero, Act.put, List.setIfInBounds_toArray, List.set_cons_zero, List.set_cons_succ]))
            (refine plan_held (v := .agg q.c.toArray) rfl rfl hS (fun w0 h0 => exec_load_mid _ _ rfl g (o + j * 17) rfl q.c _ w0 h0 Tryz.underlying36 rfl HQZ.out) ?_; try simp only [List.getElem_toArray, List.getElem_cons_succ, List.getElem_cons_zero, Act.put, List.setIfInBounds_toArray, List.set_cons_zero, List.set_cons_succ])
            repeat (first | (refine plan_skip rfl rfl ?_; simp only [List.getElem_toArray, List.getElem_cons_succ, List.getElem_cons_zero, Act.put, List.setIfInBounds_toArray, List.set_cons_zero, List.set_cons_succ]) | (refine plan_pass2 rfl rfl ?_; simp only [List.getElem_toArray, List.getElem_cons_succ, List.getElem_cons_zero, Act.put, List.setIfInBounds_toArray, List.set_cons_zero, List.set_cons_succ]) | (refine plan_pass3 rfl rfl ?_; simp only [List.getElem_toArray, List.getElem_cons_succ, List.getElem_cons_zero, Act.put, List.setIfInBounds_toArray, List.set_cons_zero, List.set_cons_succ]) | (refine plan_take (v := ?_) rfl rfl ?_ ?_; rotate_left; (focus (intro w0; go_simp; try with_reducible rfl)); simp only [List.getElem_toArray, List.getElem_cons_succ, List.getElem_cons_zero, Act.put, List.setIfInBounds_toArray, List.set_cons_zero, List.set_cons_succ]) | (refine plan_held (v := ?_) rfl rfl hS ?_ ?_; rotate_left; (focus (intro w0 hSw; (try dsimp only at hSw); go_split_ands; go_simp; try with_reducible rfl)); simp only [List.getElem_toArray, List.getElem_cons_succ, List.getElem_cons_zero, Act.put, List.setIfInBounds_toArray, List.set_cons_zero, List.set_cons_succ])  | (refine plan_skip1 rfl rfl hS ?_; simp only [List.getElem_toArray, List.getElem_cons_succ, List.getElem_cons_zero, Act.put, List.setIfInBounds_toArray, List.set_cons_zero, List.set_cons_succ]))
            (refine plan_do rfl rfl fun K hK => ?_; try simp only [List.getElem_toArray, List.getElem_cons_succ, List.getElem_cons_zero])
            go_simp
            refine (many_any x 0 (by omega) (by omega) _).mono ?_
            rintro e W12 ⟨a12, n12, c12, rfl, hr, hm⟩
            have hrd := hr.rd
            obtain ⟨g2, o2, cap2, e, hc3, hc4, hra⟩ := hrd.at (j := j) (by rw [manyL_len]; omega)
            rw [manyL_len] at e hc3
            simp only [Value.slice.injEq] at e
            obtain ⟨rfl, rfl, rfl⟩ := e
            have hS2 : W12.rangeAt g (o + j * 17) q.c ∧ W12.rangeAt g2 (o2 + j * 17) q.c := ⟨keepRange hm hS, hra j q (by rw [HQ.out]; exact manyL_get hlt)⟩
            have HM12 : Hid (Mod (fun _ => False) W11 W12) := Lib.hid (HMW.out.drew.trans hm fun _ f => f.elim)
            refine hK _ _ hS2.1 ?_
            clear hK K hm hr hrd hra hS
            try simp only [List.getElem_toArray, List.getElem_cons_succ, List.getElem_cons_zero, Act.put, List.setIfInBounds_toArray, List.set_cons_zero, List.set_cons_succ]
            repeat (first | (refine plan_skip rfl rfl ?_; simp only [List.getElem_toArray, List.getElem_cons_succ, List.getElem_cons_zero, Act.put, List.setIfInBounds_toArray, List.set_cons_zero, List.set_cons_succ]) | (refine plan_pass2 rfl rfl ?_; simp only [List.getElem_toArray, List.getElem_cons_succ, List.getElem_cons_zero, Act.put, List.setIfInBounds_toArray, List.set_cons_zero, List.set_cons_succ]) | (refine plan_pass3 rfl rfl ?_; simp only [List.getElem_toArray, List.getElem_cons_succ, List.getElem_cons_zero, Act.put, List.setIfInBounds_toArray, List.set_cons_zero, List.set_cons_succ]) | (refine plan_take (v := ?_) rfl rfl ?_ ?_; rotate_left; (focus (intro w0; go_simp; try with_reducible rfl)); simp only [List.getElem_toArray, List.getElem_cons_succ, List.getElem_cons_zero, Act.put, List.setIfInBounds_toArray, List.set_cons_zero, List.set_cons_succ]) | (refine plan_held (v := ?_) rfl rfl hS2.1 ?_ ?_; rotate_left; (focus (intro w0 hSw; (try dsimp only at hSw); go_split_ands; go_simp; try with_reducible rfl)); simp only [List.getElem_toArray, List.getElem_cons_succ, List.getElem_cons_zero, Act.put, List.setIfInBounds_toArray, List.set_cons_zero, List.set_cons_succ])  | (refine plan_skip1 rfl rfl hS2.1 ?_; simp only [List.getElem_toArray, List.getElem_cons_succ, List.getElem_cons_zero, Act.put, List.setIfInBounds_toArray, List.set_cons_zero, List.set_cons_succ]))
            refine plan_more (v := .agg q.c.toArray) (fun w' : World => w'.rangeAt g (o + j * 17) q.c ∧ w'.rangeAt g2 (o2 + j * 17) q.c) (fun _ h => h.1) rfl rfl hS2 (fun w0 h0 => exec_load_mid _ _ rfl g2 (o2 + j * 17) rfl q.c _ w0 h0.2 Tryz.underlying36 rfl HQZ.out) ?_
            try simp only [List.getElem_toArray, List.getElem_cons_succ, List.getElem_cons_zero, Act.put, List.setIfInBounds_toArray, List.set_cons_zero, List.set_cons_succ]
            refine plan_take (v := .bool false) rfl rfl (exec_ne_self rfl q rfl rfl) ?_
            try simp only [List.getElem_toArray, List.getElem_cons_succ, List.getElem_cons_zero, Act.put, List.setIfInBounds_toArray, List.set_cons_zero, List.set_cons_succ]
            refine plan_nil ?_
            go_wp2
            go_roundw
            case rel => exact ⟨j + 1, by omega, by go_num, HM12.out⟩
            case measure => simp [intOf]; omega
          · obtain rfl : j = x := by omega
            have HME : Hid (Mod (fun _ => False) w wr) := Lib.hid (HM11.out.trans HMW.out fun _ f => f.elim)
            go_wp2_with (go_at_call 13; refine (HLV.out _).mono ?_; rintro e W13 ⟨rfl, hm⟩; have HM13 : Hid (Mod (fun _ => False) w W13) := Lib.hid (HME.out.trans hm fun _ f => f.elim))
            go_ret
            exact ⟨rfl, HM13.out⟩
end Go.Proofs.YtcccdlmngddalaaGreat
