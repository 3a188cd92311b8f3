/- group.room: contract. -/
import Derived.Test.YtcccdlmngddalaaGreatGrGa
import Derived.Test.YtcccdlmngddalaaGreatRegT
set_option linter.unusedVariables false
set_option linter.unusedSimpArgs false
namespace Go.Proofs.YtcccdlmngddalaaGreat
open Go.RowKit Go.Sort
theorem enters_r1 : ∀ args w, (callFunc 93 args).run Tryz.prog w = .ok (.enter 93 args) w := enters_of Tryz.func93 (by kernel_rfl) rfl
theorem enters_r2 : ∀ args w, (callFunc 95 args).run Tryz.prog w = .ok (.enter 95 args) w := enters_of Tryz.func95 (by kernel_rfl) rfl
set_option maxRecDepth 100000 in
theorem room1_any (x : Ad) {w : World} {pg p : Nat} {v6 : Bool} (h1 : w.cell? ⟨pg, 0, none⟩ = some (.pointer (some ⟨p, 0, none⟩))) (h2 : w.cell? ⟨p, 0, none⟩ = some (.bool v6)) :
    Calls Tryz.prog 93 #[.agg x.c.toArray, .pointer (some ⟨pg, 0, none⟩)] w fun e w' => e = .returned (.bool (x.v != v6)) ∧ Mod (fun _ => False) w w' := by
  have hm0 : Mod (fun _ => False) w (w.alloc (.cells x.c.toArray 36 (0, 0))) := (Mod.refl _ _).alloc _
  have hS : (w.alloc (.cells x.c.toArray 36 (0, 0))).drew.cell? ⟨w.heap.size, 0, none⟩ = some (.bool x.v) ∧ (w.alloc (.cells x.c.toArray 36 (0, 0))).drew.cell? ⟨pg, 0, none⟩ = some (.pointer (some ⟨p, 0, none⟩)) ∧ (w.alloc (.cells x.c.toArray 36 (0, 0))).drew.cell? ⟨p, 0, none⟩ = some (.bool v6) := ⟨(Blk.new w _ x.c).cell rfl, hm0.cell (fun f => f) h1, hm0.cell (fun f => f) h2⟩
  have HM := Lib.hid hm0
  clear h1 h2 hm0
  go_enter Tryz.func93, Tryz.ntmps93
  go_wp2_with fail
  refine wp_region_plan [] [(0, 0), (1, 1), (2, 1), (3, 0), (4, 0), (5, 1), (6, 0), (7, 0)] (fun w' : World => w'.cell? ⟨w.heap.size, 0, none⟩ = some (.bool x.v) ∧ w'.cell? ⟨pg, 0, none⟩ = some (.pointer (some ⟨p, 0, none⟩)) ∧ w'.cell? ⟨p, 0, none⟩ = some (.bool v6)) (by kernel_rfl) (by kernel_rfl) (fun d v c a w h => by first | (cases d <;> exact h) | exact HP d v c a w h) ?_
  repeat ((first | refine plan_skip rfl rfl ?_ | refine plan_pass2 rfl rfl ?_ | refine plan_pass3 rfl rfl ?_ | (refine plan_take (v := ?_) rfl rfl ?_ ?_; rotate_left; focus (intro w0; go_simp; try with_reducible rfl)) | (refine plan_held (v := ?_) rfl rfl hS ?_ ?_; rotate_left; focus (intro w0 hSw; (try dsimp only at hSw); go_split_ands; go_simp; try with_reducible rfl)) | refine plan_skip1 rfl rfl hS ?_); simp only [nA, nB, nC, Act.put, nD, nE, nF])
  refine plan_nil ?_
  go_wp2
  go_ret
  refine ⟨?_, HM.out.drew⟩
  cases x.v <;> cases v6 <;> rfl
def roomF (known : List Ad) : Int → List Ad → List Ad × Int
  | _, [] => ([], 0)
  | left, a :: l =>
    if a ∈ known then (a :: (roomF known left l).1, (roomF known left l).2)
    else if left - 1 < 0 then ((roomF known (left - 1) l).1, (roomF known (left - 1) l).2 + 1)
    else (a :: (roomF known (left - 1) l).1, (roomF known (left - 1) l).2)
def rmL (known l : List Ad) (left : Int) : Nat → Int × Int
  | 0 => (left, 0)
  | i + 1 => match l[i]? with
    | some a => if a ∈ known then rmL known l left i else ((rmL known l left i).1 - 1, if (rmL known l left i).1 - 1 < 0 then (rmL known l left i).2 + 1 else (rmL known l left i).2)
    | none => rmL known l left i
def rmD (known l : List Ad) (left : Int) (i : Nat) : Bool := match l[i]? with
  | some a => !decide (a ∈ known) && decide ((rmL known l left i).1 - 1 < 0)
  | none => false
theorem rmL_cons (known l : List Ad) (a : Ad) (left : Int) : ∀ i, rmL known (a :: l) left (i + 1) = ((rmL known l (if a ∈ known then left else left - 1) i).1, (rmL known l (if a ∈ known then left else left - 1) i).2 + if a ∉ known ∧ left - 1 < 0 then 1 else 0)
  | 0 => by
    by_cases h : a ∈ known
    · simp [rmL, h]
    · by_cases h2 : left - 1 < 0
      · simp [rmL, h, h2]
      · simp [rmL, h, h2]
  | i + 1 => by
    have ih := rmL_cons known l a left i
    rw [rmL, List.getElem?_cons_succ]
    conv => rhs; rw [rmL]
    cases hx : l[i]? with
    | none => exact ih
    | some y =>
      simp only
      by_cases h : y ∈ known
      · rw [if_pos h, if_pos h]; exact ih
      · rw [if_neg h, if_neg h, ih]
        simp only
        split <;> simp <;> omega
theorem kp_room (known : List Ad) : ∀ (l : List Ad) (left : Int) (j : Nat) (ds : Nat → Bool), (∀ i, i < l.length → ds (j + i) = rmD known l left i) → kp ds j l = (roomF known left l).1 ∧ (rmL known l left l.length).2 = (roomF known left l).2
  | [], left, j, ds, _ => ⟨rfl, rfl⟩
  | a :: l, left, j, ds, h => by
    have h0 := h 0 (by simp)
    rw [Nat.add_zero] at h0
    have hd : ds j = (!decide (a ∈ known) && decide (left - 1 < 0)) := h0
    have ih := kp_room known l (if a ∈ known then left else left - 1) (j + 1) ds fun i hi => by
      rw [show j + 1 + i = j + (i + 1) by omega, h (i + 1) (by simp; omega)]
      unfold rmD
      rw [List.getElem?_cons_succ, rmL_cons]
    rw [List.length_cons, rmL_cons, kp, hd]
    rw [ih.1, ih.2]
    by_cases h1 : a ∈ known
    · simp [roomF, h1]
    · by_cases h2 : left - 1 < 0
      · simp [roomF, h1, h2]
      · simp [roomF, h1, h2]
theorem rmL_bd (known l : List Ad) (left : Int) : ∀ i, left - i ≤ (rmL known l left i).1 ∧ (rmL known l left i).1 ≤ left ∧ 0 ≤ (rmL known l left i).2 ∧ (rmL known l left i).2 ≤ i
  | 0 => by simp [rmL]
  | i + 1 => by
    have ih := rmL_bd known l left i
    rw [rmL]
    split
    · split
      · omega
      · simp only
        split <;> omega
    · omega
theorem roomF_len (known : List Ad) : ∀ (l : List Ad) (left : Int), (roomF known left l).1.length ≤ l.length
  | [], _ => by simp [roomF]
  | a :: l, left => by
    have h1 := roomF_len known l left
    have h2 := roomF_len known l (left - 1)
    unfold roomF
    split
    · simp; omega
    · split
      · simp; omega
      · simp; omega
theorem RowA.bound {w : World} {f : Nat → Prop} {v : Value} {l : List Ad} (h : RowA w f v l) : RowA w (fun k => f k ∧ k < w.heap.size) v l := ⟨h.1, fun g hg => ⟨h.2 g hg, Row.lt h g hg⟩⟩
theorem RowA.notI {w : World} {f : Nat → Prop} {v : Value} {l : List Ad} (h : RowA w f v l) {q : Nat} {t : TypeId} {cs : List Value} (hq : Blk w q t cs) (ht : t ≠ 36) : ¬ v.ownBlock = some q := Row.ne h hq fun e => ht e.symm
structure RmJ (W : World) (pk pl pq : Nat) (vk : Value) (known l : List Ad) (left : Int) (g : Nat → Prop) (i : Nat) : Prop where
  bk : Blk W pk 24 [vk]
  row : RowA W g vk known
  bl : Blk W pl 3 [.int .i64 (rmL known l left i).1]
  bq : Blk W pq 3 [.int .i64 (rmL known l left i).2]
  ne : pl ≠ pq
set_option maxRecDepth 100000 in
set_option maxHeartbeats 1000000 in
theorem room2_any {W : World} {pk pl pq : Nat} {vk : Value} {known l : List Ad} {left : Int} {g : Nat → Prop} {i : Nat} {x : Ad} (h : RmJ W pk pl pq vk known l left g i) (hx : l[i]? = some x) (hs : Asc known) (hn : known.length ≤ 5000) (hl : -1000 ≤ left ∧ left ≤ 1000) (hll : l.length ≤ 5000) :
    Calls Tryz.prog 95 #[.agg x.c.toArray, .pointer (some ⟨pk, 0, none⟩), .pointer (some ⟨pl, 0, none⟩), .pointer (some ⟨pq, 0, none⟩)] W fun e w' => e = .returned (.bool (rmD known l left i)) ∧ RmJ w' pk pl pq vk known l left g (i + 1) ∧ Mod (fun k => k = pl ∨ k = pq) W w' := by
  have hil : i < l.length := (List.getElem?_eq_some_iff.1 hx).1
  have hbd := rmL_bd known l left i
  obtain ⟨A, hA⟩ : ∃ A, A = (rmL known l left i).1 := ⟨_, rfl⟩
  obtain ⟨B, hB⟩ : ∃ B, B = (rmL known l left i).2 := ⟨_, rfl⟩
  have hm0 : Mod (fun _ => False) W (W.alloc (.cells x.c.toArray 36 (0, 0))) := (Mod.refl _ _).alloc _
  obtain ⟨bk, row, bl, bq, ne⟩ := h
  rw [← hA] at bl hbd
  rw [← hB] at bq hbd
  have HA := Lib.hid hA
  have HB := Lib.hid hB
  have HX := Lib.hid hx
  have HNE := Lib.hid ne
  obtain ⟨ak, nk, ck, rfl⟩ := row.sl
  have c0 : (W.alloc (.cells x.c.toArray 36 (0, 0))).cell? ⟨pk, 0, none⟩ = some (.slice ak nk ck) := hm0.cell (fun f => f) (bk.cell rfl)
  have HBX : Hid (Blk (W.alloc (.cells x.c.toArray 36 (0, 0))) W.heap.size 36 x.c) := Lib.hid (Blk.new W _ _)
  have HXS := Lib.hid x.c_sz
  have BK := Lib.hid (bk.keep hm0 fun f => f)
  have RW := Lib.hid (row.keep0 hm0)
  have BL := Lib.hid (bl.keep hm0 fun f => f)
  have BQ := Lib.hid (bq.keep hm0 fun f => f)
  have HM := Lib.hid hm0
  have HAs := Lib.hid hs
  have ew : IntKind.i64.wrap (A - 1) = A - 1 := IntWalk.i64_in _ (by omega)
  have ew2 : IntKind.i64.wrap (B + 1) = B + 1 := IntWalk.i64_in _ (by omega)
  clear hA hB hx bk row bl bq ne hm0 hs
  by_cases hk : x ∈ known
  · have hd : decide (x ∈ known) = true := decide_eq_true hk
    have HR : Hid (rmD known l left i = false) := Lib.hid (by unfold rmD; rw [HX.out]; simp [hk])
    have HJ : Hid (rmL known l left (i + 1) = rmL known l left i) := Lib.hid (by rw [rmL, HX.out]; simp [hk])
    clear hk
    go_enter Tryz.func95, Tryz.ntmps95
    go_wp2_with (first
      | (refine wpList_load_blk rfl _ _ rfl W.heap.size 0 rfl 36 x.c x.c _ HBX.out (List.take_of_length_le (Nat.le_refl _)) Tryz.underlying36 rfl HXS.out ?_)
      | (go_at_call 96; refine (Has_any x RW.out.rd HAs.out hn).mono ?_; rintro e W1 ⟨rfl, hm1⟩; rw [hd]; have HM1 := Lib.hid hm1; clear hm1))
    go_ret
    exact ⟨by rw [HR.out]; rfl, ⟨BK.out.keep HM1.out fun f => f, RW.out.keep0 HM1.out, by rw [HJ.out, ← HA.out]; exact BL.out.keep HM1.out fun f => f, by rw [HJ.out, ← HB.out]; exact BQ.out.keep HM1.out fun f => f, HNE.out⟩, (HM.out.trans HM1.out fun _ f => f.elim).no⟩
  · have hd : decide (x ∈ known) = false := decide_eq_false hk
    by_cases hneg : A - 1 < 0
    · have HR : Hid (rmD known l left i = true) := Lib.hid (by unfold rmD; rw [HX.out]; simp only; rw [← HA.out]; simp [hk, hneg])
      have HJ : Hid (rmL known l left (i + 1) = (A - 1, B + 1)) := Lib.hid (by rw [rmL, HX.out]; simp only; rw [if_neg hk, ← HA.out, ← HB.out, if_pos hneg])
      clear hk
      go_enter Tryz.func95, Tryz.ntmps95
      go_wp2_with (first
        | (refine wpList_load_blk rfl _ _ rfl W.heap.size 0 rfl 36 x.c x.c _ HBX.out (List.take_of_length_le (Nat.le_refl _)) Tryz.underlying36 rfl HXS.out ?_)
        | (go_at_call 96; refine (Has_any x RW.out.rd HAs.out hn).mono ?_; rintro e W1 ⟨rfl, hm1⟩; rw [hd]; have HM1 := Lib.hid hm1; have BK1 := Lib.hid (BK.out.keep hm1 fun f => f); have BL1 := Lib.hid (BL.out.keep hm1 fun f => f); have BQ1 := Lib.hid (BQ.out.keep hm1 fun f => f); have RW1 := Lib.hid (RW.out.keep0 hm1); have y0 : W1.cell? ⟨pl, 0, none⟩ = some (.int .i64 A) := BL1.out.cell rfl; clear hm1)
        | (refine wpList_store_blk1 rfl _ _ _ rfl pl 0 3 _ (.int .i64 (A - 1)) rfl rfl BL1.out (by simp) iSz rfl ?_; intro W2 HX2 HY2; have BL2 : Hid (Blk W2 pl 3 [.int .i64 (A - 1)]) := Lib.hid HX2.out; have BQ2 := Lib.hid (BQ1.out.keep HY2.out fun e => HNE.out e.symm); have BK2 := Lib.hid (BK1.out.keep HY2.out fun e => BK1.out.neT BL1.out (by decide) e); have RW2 := Lib.hid (RW1.out.keepT HY2.out (BL1.out.notA (by decide))); have y1 : W2.cell? ⟨pl, 0, none⟩ = some (.int .i64 (A - 1)) := BL2.out.cell rfl; have y2 : W2.cell? ⟨pq, 0, none⟩ = some (.int .i64 B) := BQ2.out.cell rfl)
        | (refine wpList_store_blk1 rfl _ _ _ rfl pq 0 3 _ (.int .i64 (B + 1)) rfl rfl BQ2.out (by simp) iSz rfl ?_; intro W3 HX3 HY3; have BQ3 : Hid (Blk W3 pq 3 [.int .i64 (B + 1)]) := Lib.hid HX3.out; have BL3 := Lib.hid (BL2.out.keep HY3.out fun e => HNE.out e); have BK3 := Lib.hid (BK2.out.keep HY3.out fun e => BK2.out.neT BQ2.out (by decide) e); have RW3 := Lib.hid (RW2.out.keepT HY3.out (BQ2.out.notA (by decide))); have y3 : W3.cell? ⟨pl, 0, none⟩ = some (.int .i64 (A - 1)) := BL3.out.cell rfl))
      go_ret
      exact ⟨by rw [HR.out]; rfl, ⟨BK3.out, RW3.out, by rw [HJ.out]; exact BL3.out, by rw [HJ.out]; exact BQ3.out, HNE.out⟩, (((HM.out.trans HM1.out fun _ f => f.elim).no).trans HY2.out fun k hk => .inl (.inl hk)).trans HY3.out fun k hk => .inl (.inr hk)⟩
    · have HR : Hid (rmD known l left i = false) := Lib.hid (by unfold rmD; rw [HX.out]; simp only; rw [← HA.out]; simp [hk, hneg])
      have HJ : Hid (rmL known l left (i + 1) = (A - 1, B)) := Lib.hid (by rw [rmL, HX.out]; simp only; rw [if_neg hk, ← HA.out, ← HB.out, if_neg hneg])
      have HNEG := Lib.hid hneg
      clear hk
      go_enter Tryz.func95, Tryz.ntmps95
      go_wp2_with (first
        | (refine wpList_load_blk rfl _ _ rfl W.heap.size 0 rfl 36 x.c x.c _ HBX.out (List.take_of_length_le (Nat.le_refl _)) Tryz.underlying36 rfl HXS.out ?_)
        | (go_at_call 96; refine (Has_any x RW.out.rd HAs.out hn).mono ?_; rintro e W1 ⟨rfl, hm1⟩; rw [hd]; have HM1 := Lib.hid hm1; have BK1 := Lib.hid (BK.out.keep hm1 fun f => f); have BL1 := Lib.hid (BL.out.keep hm1 fun f => f); have BQ1 := Lib.hid (BQ.out.keep hm1 fun f => f); have RW1 := Lib.hid (RW.out.keep0 hm1); have y0 : W1.cell? ⟨pl, 0, none⟩ = some (.int .i64 A) := BL1.out.cell rfl; clear hm1)
        | (refine wpList_store_blk1 rfl _ _ _ rfl pl 0 3 _ (.int .i64 (A - 1)) rfl rfl BL1.out (by simp) iSz rfl ?_; intro W2 HX2 HY2; have BL2 : Hid (Blk W2 pl 3 [.int .i64 (A - 1)]) := Lib.hid HX2.out; have BQ2 := Lib.hid (BQ1.out.keep HY2.out fun e => HNE.out e.symm); have BK2 := Lib.hid (BK1.out.keep HY2.out fun e => BK1.out.neT BL1.out (by decide) e); have RW2 := Lib.hid (RW1.out.keepT HY2.out (BL1.out.notA (by decide))); have y1 : W2.cell? ⟨pl, 0, none⟩ = some (.int .i64 (A - 1)) := BL2.out.cell rfl))
      go_ret
      exact ⟨by rw [HR.out]; show Ending.returned (.bool (decide (A - 1 < 0))) = _; rw [show decide (A - 1 < 0) = false from decide_eq_false (by have := HNEG.out; omega)], ⟨BK2.out, RW2.out, by rw [HJ.out]; exact BL2.out, by rw [HJ.out]; exact BQ2.out, HNE.out⟩, ((HM.out.trans HM1.out fun _ f => f.elim).no).trans HY2.out fun k hk => .inl (.inl hk)⟩
end Go.Proofs.YtcccdlmngddalaaGreat
