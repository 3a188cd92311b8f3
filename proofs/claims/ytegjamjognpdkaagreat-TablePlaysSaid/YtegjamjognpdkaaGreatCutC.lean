/- acequialaw35.Rows: rows in memory of their own, somewhat cut: contract. -/
import Derived.Test.YtegjamjognpdkaaGreatOwnB
import Derived.Test.YtegjamjognpdkaaGreatBldS
namespace Go.Proofs.YtegjamjognpdkaaGreat
open Go.RowKit
set_option linter.unusedVariables false
set_option linter.unusedSimpArgs false
def cutN (r : TRow) : TRow := ⟨r.vlan, r.v6, r.b, r.root, r.next.take 6⟩
def cutT (rs : List TRow) : List TRow := (rs.take 6).map cutN
/-- the outer loop, i rounds behind -/
structure CutJ (rs : List TRow) (w wr : World) (v : Value) (i : Nat) : Prop where
  out : ∃ sv, RowsOwn wr (fun q => w.heap.size ≤ q) v ((rs.take i).map cutN) sv
  mod : Mod (fun _ => False) w wr
theorem RowsOwn.under {w : World} {f : Nat → Prop} {v : Value} {rs : List TRow} {sv : Nat → Value} (h : RowsOwn w f v rs sv) : RowsOwn w (fun k => f k ∧ k < w.heap.size) v rs sv :=
  ⟨⟨h.row.1, fun g hg => ⟨h.row.2 g hg, h.row.lt g hg⟩⟩, h.ok, fun i r hr => ⟨(h.next i r hr).1, fun g hg => ⟨(h.next i r hr).2 g hg, (h.next i r hr).lt g hg⟩⟩⟩
/-- the inner loop, k rounds behind; p: the row's box -/
structure CutK (rs : List TRow) (w wr : World) (v : Value) (i p : Nat) (r : TRow) (k : Nat) (u : Value) : Prop where
  out : ∃ sv, RowsOwn wr (fun q => w.heap.size ≤ q ∧ q < p) v ((rs.take i).map cutN) sv
  own : Blk wr p 28 (r.c u)
  row : Row wr (fun q => p < q) 3 1 u k (ints (r.next.take k))
  mod : Mod (fun _ => False) w wr
  hp : w.heap.size ≤ p
theorem CutJ.open {rs : List TRow} {w wr w3 w4 : World} {v : Value} {i : Nat} {r : TRow} {ob : Obj} (h : CutJ rs w wr v i) (hb : r.b.length = 16) (hm3 : Mod (fun k => k = wr.heap.size) (wr.alloc ob) w3) (hB : Blk w4 wr.heap.size 28 (r.c (.slice (some ⟨w3.heap.size, 0, none⟩) 0 0)))
    (hm4 : Mod (fun k => k = wr.heap.size) (w3.alloc (.cells #[] 3 (0, 0))) w4) : CutK rs w w4 v i wr.heap.size r 0 (.slice (some ⟨w3.heap.size, 0, none⟩) 0 0) := by
  have hsz : w.heap.size ≤ wr.heap.size := h.mod.size
  have h3 : wr.heap.size < w3.heap.size := by
    have := hm3.size
    simp at this
    omega
  have hm1 : Mod (fun _ => False) wr w3 := ((Mod.refl _ _).alloc _).trans hm3 fun x hx => .inr (by omega)
  have hm2 : Mod (fun _ => False) wr w4 := (hm1.alloc _).trans hm4 fun x hx => .inr (by omega)
  refine ⟨?_, hB, ?_, h.mod.trans hm2 fun _ f => f.elim, hsz⟩
  · obtain ⟨sv, ho⟩ := h.out
    exact ⟨sv, ho.under.keep hm2 fun _ _ f => f⟩
  · rw [List.take_zero]
    exact ((Row.empty w3 3 1).keep hm4 fun k hk e => by omega).mono fun k hk => by omega
theorem CutK.next {rs : List TRow} {w wr w2 w3 : World} {v u u' : Value} {i p k : Nat} {r : TRow} {x : Int} {ob : Obj} (h : CutK rs w wr v i p r k u) (hx : r.next[k]? = some x)
    (hR : Row w2 (fun q => p < q ∨ (wr.drew.alloc ob).heap.size ≤ q) 3 1 u' (k + 1) (ints (r.next.take k) ++ [.int .i64 x])) (hm2 : Mod (fun q => u.ownBlock = some q) (wr.drew.alloc ob) w2)
    (hB : Blk w3 p 28 (r.c u')) (hm3 : Mod (fun q => q = p) w2 w3) : CutK rs w w3 v i p r (k + 1) u' := by
  have hpw : p < wr.heap.size := lt_of_block h.own
  have hou : ∀ q, u.ownBlock = some q → p < q := fun q hq => h.row.2 q hq
  have hma : Mod (fun _ => False) wr (wr.drew.alloc ob) := (Mod.refl _ _).drew.alloc _
  have hp := h.hp
  have hsz := h.mod.size
  have hmm : Mod (fun _ => False) w w2 := (h.mod.trans hma fun _ f => f.elim).trans hm2 fun q hq => .inr (by have := hou q hq; omega)
  refine ⟨?_, hB, ?_, hmm.trans hm3 fun q hq => .inr (by omega), hp⟩
  · obtain ⟨sv, ho⟩ := h.out
    exact ⟨sv, ((ho.keep hma fun _ _ f => f).keep hm2 fun q hq e => by have := hou q e; omega).keep hm3 fun q hq e => by omega⟩
  · have e : ints (r.next.take (k + 1)) = ints (r.next.take k) ++ [.int .i64 x] := by
      rw [List.take_add_one, hx]
      simp [ints]
    rw [e]
    refine (hR.mono fun q hq => ?_).keep hm3 fun q hq e => by omega
    rcases hq with hq | hq
    · exact hq
    · simp at hq
      omega
theorem CutK.close {rs : List TRow} {w wr w2 : World} {v v' u : Value} {i p k n : Nat} {r : TRow} {ob : Obj} {sv : Nat → Value} (h : CutK rs w wr v i p r k u) (hr : rs[i]? = some r) (hb : adrOk r.b) (hk : r.next.take k = r.next.take 6) (ho : RowsOwn wr (fun q => w.heap.size ≤ q ∧ q < p) v ((rs.take i).map cutN) sv) (hkl : (r.next.take 6).length = k) (hn : n = ((rs.take i).map cutN).length)
    (hrow : Row w2 (fun q => (w.heap.size ≤ q ∧ q < p) ∨ (wr.alloc ob).heap.size ≤ q) 28 20 v' (n + 1) (cellsR sv 0 ((rs.take i).map cutN) ++ r.c u)) (hm : Mod (fun q => v.ownBlock = some q) (wr.alloc ob) w2) : CutJ rs w w2 v' (i + 1) := by
  subst hn
  have hma : Mod (fun _ => False) wr (wr.alloc ob) := (Mod.refl _ _).alloc _
  have hp := h.hp
  have hsz := h.mod.size
  have hpw : p < wr.heap.size := lt_of_block h.own
  have hov : ∀ q, v.ownBlock = some q → w.heap.size ≤ q := fun q hq => (ho.row.2 q hq).1
  have ho1 : RowsOwn (wr.alloc ob) (fun q => w.heap.size ≤ q) v ((rs.take i).map cutN) sv := ⟨((ho.keep hma fun _ _ f => f).row).mono fun q hq => hq.1, ho.ok, fun j x hx => ((ho.keep hma fun _ _ f => f).next j x hx).mono fun q hq => hq.1⟩
  have hu1 : Row (wr.alloc ob) (fun q => w.heap.size ≤ q) 3 1 u (cutN r).next.length (ints (cutN r).next) := by
    show Row _ _ _ _ u (r.next.take 6).length (ints (r.next.take 6))
    rw [hkl, ← hk]
    exact (h.row.keep hma fun _ _ f => f).mono fun q hq => by omega
  have e : (rs.take (i + 1)).map cutN = (rs.take i).map cutN ++ [cutN r] := by
    rw [List.take_add_one, hr]
    simp
  refine ⟨?_, (h.mod.trans hma fun _ f => f.elim).trans hm fun q hq => .inr (hov q hq)⟩
  rw [e]
  exact ⟨_, ho1.snoc hu1 hb (hrow.mono fun q hq => hq.elim (fun h => h.1) fun h => by simp at h; omega) hm fun _ h => h⟩
set_option maxRecDepth 100000 in
set_option maxHeartbeats 4000000 in
theorem rows_any (v : Value) (rs : List TRow) (sv : Nat → Value) (w : World) (h : RowsAt w v rs sv) :
    Calls Tryz.prog 6 #[v] w fun e w' => ∃ v' sv', e = .returned v' ∧ RowsOwn w' (fun k => w.heap.size ≤ k) v' (cutT rs) sv' ∧ Mod (fun _ => False) w w' := by
  obtain ⟨⟨ad, cp, rfl, hnc, hcm, hg⟩, hok, hnx⟩ := h
  unfold maxLen at hcm
  have HG := Lib.hid hg
  have HOK := Lib.hid hok
  have HNX := Lib.hid hnx
  have HRS := Lib.hid rowSz
  have HLS := Lib.hid sliceSz
  obtain ⟨n, hn⟩ : ∃ n, n = rs.length := ⟨_, rfl⟩
  rw [← hn] at HG hnc ⊢
  have HL := Lib.hid hn
  clear hg hok hnx hn
  have HJ0 : Hid (CutJ rs w (w.alloc (.cells #[] 28 (0, 0))) (.slice (some ⟨w.heap.size, 0, none⟩) 0 0) 0) := Lib.hid ⟨⟨fun _ => .slice none 0 0, Row.empty w 28 20, fun r hr => by simp at hr, fun i r hi => by simp at hi⟩, (Mod.refl _ _).alloc _⟩
  go_enter Tryz.func6, Tryz.ntmps6
  go_wp2_with fail
  go_loopw [3, 4] (fun u t wr => ∃ i : Nat, i ≤ n ∧ i ≤ 6 ∧ t = .int .i64 (i : Int) ∧ CutJ rs w wr u i) (fun _ t _ => 6 - (intOf t).toNat)
  case atStart => exact ⟨0, Nat.zero_le _, Nat.zero_le _, rfl, HJ0.out⟩
  case round =>
    obtain ⟨i, hin, hi6, rfl, hJ⟩ := hrel
    have HJ := Lib.hid hJ
    clear hJ
    by_cases hlt : i < n
    · by_cases hl6 : i < 6
      · obtain ⟨g, o, rfl, hcg⟩ := HG.out (by omega)
        obtain ⟨r, hr⟩ : ∃ r, rs[i]? = some r := ⟨_, List.getElem?_eq_getElem (by have := HL.out; omega)⟩
        obtain ⟨nd, nc, hsv, hk1, hk2, hk3⟩ := HNX.out i r hr
        unfold maxLen at hk2
        obtain ⟨N, hN⟩ : ∃ N, N = r.next.length := ⟨_, rfl⟩
        rw [← hN] at hsv hk1 hk3
        have HR := Lib.hid hr
        have HK3 := Lib.hid hk3
        have HN := Lib.hid hN
        have HRA0 := Lib.hid (rows_get hcg HOK.out hr)
        rw [hsv] at HRA0
        have HRA := Lib.hid (keepRange HJ.out.mod HRA0.out)
        have HO := Lib.hid (HOK.out r (List.mem_of_getElem? hr))
        have HW : Hid (w.cell? ⟨g, o + i * 20 + 19, none⟩ = some (.slice nd N nc)) := Lib.hid (HRA0.out 19 _ (rowC_19 _ _ _ _ _ HO.out.1))
        have HRZ : Hid ((Tryz.prog.info? 28).map (·.size) = some (r.c (.slice nd N nc)).length) := Lib.hid (by rw [TRow.c, rowC_len _ _ _ _ _ HO.out.1]; exact HRS.out)
        have HONE : Hid (∀ u ∈ r.c (.slice nd N nc), u.oneCell' = true) := Lib.hid (rowC_one _ _ _ _ _ rfl)
        have HFIT : Hid (0 + (r.c (.slice nd N nc)).length ≤ (rowC 0 false z16 0 (.slice none 0 0)).length) := Lib.hid (by rw [TRow.c, rowC_len _ _ _ _ _ HO.out.1, rowC_len _ _ _ _ _ rfl]; decide)
        have HNB := Lib.hid (Blk.new wr 28 (rowC 0 false z16 0 (.slice none 0 0)))
        clear hr hcg hk3 hsv hN
        go_wp2_with (first | (refine wpList_load_midG rfl _ _ rfl g (o + i * 20) rfl (r.c (.slice nd N nc)) _ HRA.out Tryz.underlying28 rfl HRZ.out ?_) | (refine wpList_store_blk rfl _ _ _ rfl wr.heap.size 0 28 (rowC 0 false z16 0 (.slice none 0 0)) (r.c (.slice nd N nc)) rfl rfl HNB.out HFIT.out HRZ.out HONE.out ?_; intro w3 HB3 HM3; have HB3' := Lib.hid (splice_all HB3.out (by rw [TRow.c, rowC_len _ _ _ _ _ HO.out.1, rowC_len _ _ _ _ _ rfl])); have HB3a := Lib.hid (HB3'.out.alloc (.cells #[] 3 (0, 0)))) | (refine wpList_store_blk1 rfl _ _ _ rfl wr.heap.size 19 28 (r.c (.slice nd N nc)) (.slice (some ⟨w3.heap.size, 0, none⟩) 0 0) rfl rfl HB3a.out (by rw [TRow.c, rowC_len _ _ _ _ _ HO.out.1]; decide) HLS.out rfl ?_; intro w4 HB4 HM4))
        have HB4' : Hid (Blk w4 wr.heap.size 28 (r.c (.slice (some ⟨w3.heap.size, 0, none⟩) 0 0))) := Lib.hid (by have h := HB4.out; unfold TRow.c at h; rw [rowC_set _ _ _ _ _ _ HO.out.1] at h; exact h)
        have HK0 := Lib.hid (HJ.out.open HO.out.1 HM3.out HB4'.out HM4.out)
        obtain ⟨p, hp⟩ : ∃ p, p = wr.heap.size := ⟨_, rfl⟩
        rw [← hp] at HK0
        try rw [← hp]
        obtain ⟨u0, hu0⟩ : ∃ u0 : Value, u0 = .slice (some ⟨w3.heap.size, 0, none⟩) 0 0 := ⟨_, rfl⟩
        rw [← hu0] at HK0
        clear hp hu0 HB4 HB4' HM4 HB3 HB3a HB3' HM3 HNB HFIT HONE HRZ HRA
        go_loopw [6] (fun t wk => ∃ (k : Nat) (u : Value), k ≤ N ∧ k ≤ 6 ∧ t = .int .i64 (k : Int) ∧ CutK rs w wk u3 i p r k u) (fun t _ => 6 - (intOf t).toNat)
        case atStart => exact ⟨0, u0, Nat.zero_le _, Nat.zero_le _, rfl, HK0.out⟩
        case round =>
          obtain ⟨k, u, hkN, hk6, rfl, hK⟩ := hrel
          have HK := Lib.hid hK
          obtain ⟨au, cu, rfl, _, hcu, _⟩ := hK.row.form
          have c19 : wr.cell? ⟨g, o + i * 20 + 19, none⟩ = some (.slice nd N nc) := HK.out.mod.cell (fun f => f) HW.out
          clear hK
          by_cases hlk : k < N
          · by_cases hk6' : k < 6
            · obtain ⟨eg, eo, rfl, hx⟩ := HK3.out (by omega)
              obtain ⟨x, hxx⟩ : ∃ x, r.next[k]? = some x := ⟨_, List.getElem?_eq_getElem (by have := HN.out; omega)⟩
              have HX := Lib.hid hxx
              have hww : w.cell? ⟨eg, eo + k, none⟩ = some (.int .i64 x) := hx k _ (by unfold ints; rw [List.getElem?_map, hxx]; rfl)
              have HWW : Hid (w.cell? ⟨g, o + i * 20 + 19, none⟩ = some (.slice (some ⟨eg, eo, none⟩) N nc) ∧ w.cell? ⟨eg, eo + k, none⟩ = some (.int .i64 x)) := Lib.hid ⟨HW.out, hww⟩
              have hS : wr.drew.cell? ⟨p, 19, none⟩ = some (.slice au k cu) ∧ wr.drew.cell? ⟨g, o + i * 20 + 19, none⟩ = some (.slice (some ⟨eg, eo, none⟩) N nc) ∧ wr.drew.cell? ⟨eg, eo + k, none⟩ = some (.int .i64 x) := ⟨HK.out.own.cell (rowC_19 _ _ _ _ _ HO.out.1), HK.out.mod.drew.cell (fun f => f) HWW.out.1, HK.out.mod.drew.cell (fun f => f) HWW.out.2⟩
              unfold maxLen at hcu
              clear hx hxx hww
              go_wp2_with fail
              refine wp_region_plan [13] [(0, 0), (1, 1), (2, 0), (3, 0), (4, 0), (5, 0), (6, 1), (7, 0), (8, 0), (9, 1), (10, 2), (11, 2), (12, 0), (13, 3)] (fun w' : World => w'.cell? ⟨p, 19, none⟩ = some (.slice au k cu) ∧ w'.cell? ⟨g, o + i * 20 + 19, none⟩ = some (.slice (some ⟨eg, eo, none⟩) N nc) ∧ w'.cell? ⟨eg, eo + k, none⟩ = some (.int .i64 x)) (by kernel_rfl) (by kernel_rfl) (fun d _ _ _ _ h => by cases d <;> exact h) ?_
              repeat (first | (refine plan_skip rfl rfl ?_; simp only [List.getElem_toArray, List.getElem_cons_succ, List.getElem_cons_zero, Act.put, List.setIfInBounds_toArray, List.set_cons_zero, List.set_cons_succ]) | (refine plan_pass2 rfl rfl ?_; simp only [List.getElem_toArray, List.getElem_cons_succ, List.getElem_cons_zero, Act.put, List.setIfInBounds_toArray, List.set_cons_zero, List.set_cons_succ]) | (refine plan_pass3 rfl rfl ?_; simp only [List.getElem_toArray, List.getElem_cons_succ, List.getElem_cons_zero, Act.put, List.setIfInBounds_toArray, List.set_cons_zero, List.set_cons_succ]) | (refine plan_take (v := ?_) rfl rfl ?_ ?_; rotate_left; (focus (intro w0; go_simp; try with_reducible rfl)); simp only [List.getElem_toArray, List.getElem_cons_succ, List.getElem_cons_zero, Act.put, List.setIfInBounds_toArray, List.set_cons_zero, List.set_cons_succ]) | (refine plan_held (v := ?_) rfl rfl hS ?_ ?_; rotate_left; (focus (intro w0 hSw; (try dsimp only at hSw); go_split_ands; go_simp; try with_reducible rfl)); simp only [List.getElem_toArray, List.getElem_cons_succ, List.getElem_cons_zero, Act.put, List.setIfInBounds_toArray, List.set_cons_zero, List.set_cons_succ])  | (refine plan_skip1 rfl rfl hS ?_; simp only [List.getElem_toArray, List.getElem_cons_succ, List.getElem_cons_zero, Act.put, List.setIfInBounds_toArray, List.set_cons_zero, List.set_cons_succ]))
              (refine plan_do rfl rfl fun K hK => ?_; (try simp only [List.getElem_toArray, List.getElem_cons_succ, List.getElem_cons_zero]); go_simp; refine hK _ _ (⟨allocCell _ hS.1, allocCell _ hS.2.1, allocCell _ hS.2.2⟩) ?_; clear hK K; try simp only [List.getElem_toArray, List.getElem_cons_succ, List.getElem_cons_zero, Act.put, List.setIfInBounds_toArray, List.set_cons_zero, List.set_cons_succ])
              repeat (first | (refine plan_skip rfl rfl ?_; simp only [List.getElem_toArray, List.getElem_cons_succ, List.getElem_cons_zero, Act.put, List.setIfInBounds_toArray, List.set_cons_zero, List.set_cons_succ]) | (refine plan_pass2 rfl rfl ?_; simp only [List.getElem_toArray, List.getElem_cons_succ, List.getElem_cons_zero, Act.put, List.setIfInBounds_toArray, List.set_cons_zero, List.set_cons_succ]) | (refine plan_pass3 rfl rfl ?_; simp only [List.getElem_toArray, List.getElem_cons_succ, List.getElem_cons_zero, Act.put, List.setIfInBounds_toArray, List.set_cons_zero, List.set_cons_succ]) | (refine plan_take (v := ?_) rfl rfl ?_ ?_; rotate_left; (focus (intro w0; go_simp; try with_reducible rfl)); simp only [List.getElem_toArray, List.getElem_cons_succ, List.getElem_cons_zero, Act.put, List.setIfInBounds_toArray, List.set_cons_zero, List.set_cons_succ]) | fail )
              (refine plan_do rfl rfl fun K hK => ?_; try simp only [List.getElem_toArray, List.getElem_cons_succ, List.getElem_cons_zero])
              refine wp_append_one Tryz.elI (.tmp 39) (.tmp 48) rfl #[.int .i64 x] (fun q => p < q) (.slice au k cu) k (ints (r.next.take k)) ((show Row wr.drew _ _ _ _ _ _ from HK.out.row).alloc _) wr.drew.heap.size (allocNew wr.drew _) rfl rfl rfl (by simp [Value.oneCell']) (by omega) (by unfold maxLen; omega) ?_
              intro v10 w10 hR10 hm10
              obtain ⟨a10, c10, rfl, _, _, _⟩ := hR10.form
              have HB10 : Hid (Blk w10 p 28 (r.c (.slice au k cu))) := Lib.hid ((HK.out.own.drew.alloc (.cells #[.int .i64 x] 3 (0, 0))).keep hm10 fun e => HK.out.row.ne HK.out.own (by decide) e)
              have hmw : Mod (fun _ => False) w w10 := (HK.out.mod.drew.alloc _).trans hm10 fun q hq => .inr (by have := HK.out.row.2 q hq; have := HK.out.hp; omega)
              have HR10 := Lib.hid hR10
              have HM10 := Lib.hid hm10
              refine hK _ _ ⟨HB10.out.cell (rowC_19 _ _ _ _ _ HO.out.1), hmw.cell (fun f => f) HWW.out.1, hmw.cell (fun f => f) HWW.out.2⟩ ?_
              clear hK K hm10 hR10 hmw
              try simp only [List.getElem_toArray, List.getElem_cons_succ, List.getElem_cons_zero, Act.put, List.setIfInBounds_toArray, List.set_cons_zero, List.set_cons_succ]
              repeat (first | (refine plan_skip rfl rfl ?_; simp only [List.getElem_toArray, List.getElem_cons_succ, List.getElem_cons_zero, Act.put, List.setIfInBounds_toArray, List.set_cons_zero, List.set_cons_succ]) | (refine plan_pass2 rfl rfl ?_; simp only [List.getElem_toArray, List.getElem_cons_succ, List.getElem_cons_zero, Act.put, List.setIfInBounds_toArray, List.set_cons_zero, List.set_cons_succ]) | (refine plan_pass3 rfl rfl ?_; simp only [List.getElem_toArray, List.getElem_cons_succ, List.getElem_cons_zero, Act.put, List.setIfInBounds_toArray, List.set_cons_zero, List.set_cons_succ]) | (refine plan_take (v := ?_) rfl rfl ?_ ?_; rotate_left; (focus (intro w0; go_simp; try with_reducible rfl)); simp only [List.getElem_toArray, List.getElem_cons_succ, List.getElem_cons_zero, Act.put, List.setIfInBounds_toArray, List.set_cons_zero, List.set_cons_succ]) | fail )
              (refine plan_end rfl rfl rfl fun K hK => ?_; (try simp only [List.getElem_toArray, List.getElem_cons_succ, List.getElem_cons_zero]))
              refine wp_store_blk1 26 _ _ rfl p 19 28 (r.c (.slice au k cu)) (.slice a10 (k + 1) c10) rfl rfl HB10.out (by rw [TRow.c, rowC_len _ _ _ _ _ HO.out.1]; decide) HLS.out rfl ?_
              intro w11 HL11 HM11
              have HL11' : Hid (Blk w11 p 28 (r.c (.slice a10 (k + 1) c10))) := Lib.hid (by have h := HL11.out; unfold TRow.c at h; rw [rowC_set _ _ _ _ _ _ HO.out.1] at h; exact h)
              have HK2 := Lib.hid (HK.out.next HX.out HR10.out HM10.out HL11'.out HM11.out)
              refine hK _ _ ?_
              clear hK K HR10 HM10 HL11 HL11' HM11 HB10 HK hS
              try simp only [List.getElem_toArray, List.getElem_cons_succ, List.getElem_cons_zero, Act.put, List.setIfInBounds_toArray, List.set_cons_zero, List.set_cons_succ]
              repeat (first | (refine plan_skip rfl rfl ?_; simp only [List.getElem_toArray, List.getElem_cons_succ, List.getElem_cons_zero, Act.put, List.setIfInBounds_toArray, List.set_cons_zero, List.set_cons_succ]) | (refine plan_pass2 rfl rfl ?_; simp only [List.getElem_toArray, List.getElem_cons_succ, List.getElem_cons_zero, Act.put, List.setIfInBounds_toArray, List.set_cons_zero, List.set_cons_succ]) | (refine plan_pass3 rfl rfl ?_; simp only [List.getElem_toArray, List.getElem_cons_succ, List.getElem_cons_zero, Act.put, List.setIfInBounds_toArray, List.set_cons_zero, List.set_cons_succ]) | (refine plan_take (v := ?_) rfl rfl ?_ ?_; rotate_left; (focus (intro w0; go_simp; try with_reducible rfl)); simp only [List.getElem_toArray, List.getElem_cons_succ, List.getElem_cons_zero, Act.put, List.setIfInBounds_toArray, List.set_cons_zero, List.set_cons_succ]) | fail )
              refine plan_nil ?_
              go_wp2
              go_roundw
              case rel => exact ⟨k + 1, _, by omega, by omega, by go_num, HK2.out⟩
              case measure => simp [intOf]; omega
            · obtain rfl : k = 6 := by omega
              have HKE : Hid (True ∧ (r.next.take 6).length = 6) := Lib.hid ⟨trivial, by rw [List.length_take]; have := HN.out; omega⟩
              have HCZ : Hid ((Tryz.prog.info? 28).map (·.size) = some (r.c (.slice au 6 cu)).length) := Lib.hid (by rw [TRow.c, rowC_len _ _ _ _ _ HO.out.1]; exact HRS.out)
              obtain ⟨svo, ho⟩ := HK.out.out
              have HOO := Lib.hid ho
              have HLN : Hid (((rs.take i).map cutN).length = i) := Lib.hid (by rw [List.length_map, List.length_take]; have := HL.out; omega)
              clear ho
              go_wp2_with (first | (refine wpList_load_blk rfl _ _ rfl p 0 rfl 28 (r.c (.slice au 6 cu)) (r.c (.slice au 6 cu)) _ HK.out.own (List.take_of_length_le (Nat.le_refl _)) Tryz.underlying28 rfl HCZ.out ?_) | (refine wpList_buildSlice1 Tryz.elRow rfl _ rfl (r.c (.slice au 6 cu)) rfl (by rw [TRow.c, rowC_len _ _ _ _ _ HO.out.1]) (by decide) (by decide) ?_) | (at_builtin; refine wpList_append_one Tryz.elRow rfl (.tmp 51) (.tmp 53) rfl (r.c (.slice au 6 cu)).toArray (fun q => w.heap.size ≤ q ∧ q < p) u3 ((rs.take i).map cutN).length (cellsR svo 0 ((rs.take i).map cutN)) (HOO.out.row.alloc _) wr.heap.size (allocNew wr _) rfl rfl (by show (r.c _).length = 20; rw [TRow.c, rowC_len _ _ _ _ _ HO.out.1]) (show ∀ u ∈ r.c (.slice au _ cu), u.oneCell' = true from rowC_one _ _ _ _ _ rfl) (by rw [HLN.out]; omega) (by rw [HLN.out]; unfold maxLen; omega) ?_; intro v9 w9 h9 h9m; have H9 := Lib.hid h9; have H9M := Lib.hid h9m; clear h9 h9m))
              have HJ2 := Lib.hid (HK.out.close HR.out HO.out rfl HOO.out HKE.out.2 rfl (by simpa using H9.out) H9M.out)
              go_roundw
              case rel => exact ⟨i + 1, by omega, by omega, by go_num, HJ2.out⟩
              case measure => simp [intOf]; omega
          · have HKE : Hid (r.next.take k = r.next.take 6 ∧ (r.next.take 6).length = k) := Lib.hid ⟨by rw [List.take_of_length_le (by have := HN.out; omega), List.take_of_length_le (by have := HN.out; omega)], by rw [List.length_take]; have := HN.out; omega⟩
            have HCZ : Hid ((Tryz.prog.info? 28).map (·.size) = some (r.c (.slice au k cu)).length) := Lib.hid (by rw [TRow.c, rowC_len _ _ _ _ _ HO.out.1]; exact HRS.out)
            obtain ⟨svo, ho⟩ := HK.out.out
            have HOO := Lib.hid ho
            have HLN : Hid (((rs.take i).map cutN).length = i) := Lib.hid (by rw [List.length_map, List.length_take]; have := HL.out; omega)
            clear ho
            go_wp2_with (first | (refine wpList_load_blk rfl _ _ rfl p 0 rfl 28 (r.c (.slice au k cu)) (r.c (.slice au k cu)) _ HK.out.own (List.take_of_length_le (Nat.le_refl _)) Tryz.underlying28 rfl HCZ.out ?_) | (refine wpList_buildSlice1 Tryz.elRow rfl _ rfl (r.c (.slice au k cu)) rfl (by rw [TRow.c, rowC_len _ _ _ _ _ HO.out.1]) (by decide) (by decide) ?_) | (at_builtin; refine wpList_append_one Tryz.elRow rfl (.tmp 51) (.tmp 53) rfl (r.c (.slice au k cu)).toArray (fun q => w.heap.size ≤ q ∧ q < p) u3 ((rs.take i).map cutN).length (cellsR svo 0 ((rs.take i).map cutN)) (HOO.out.row.alloc _) wr.heap.size (allocNew wr _) rfl rfl (by show (r.c _).length = 20; rw [TRow.c, rowC_len _ _ _ _ _ HO.out.1]) (show ∀ u ∈ r.c (.slice au _ cu), u.oneCell' = true from rowC_one _ _ _ _ _ rfl) (by rw [HLN.out]; omega) (by rw [HLN.out]; unfold maxLen; omega) ?_; intro v9 w9 h9 h9m; have H9 := Lib.hid h9; have H9M := Lib.hid h9m; clear h9 h9m))
            have HJ2 := Lib.hid (HK.out.close HR.out HO.out HKE.out.1 HOO.out HKE.out.2 rfl (by simpa using H9.out) H9M.out)
            go_roundw
            case rel => exact ⟨i + 1, by omega, by omega, by go_num, HJ2.out⟩
            case measure => simp [intOf]; omega
      · have HE : Hid (rs.take i = rs.take 6) := Lib.hid (by rw [show i = 6 by omega])
        go_wp2
        go_ret
        obtain ⟨svo, ho⟩ := HJ.out.out
        exact ⟨_, svo, rfl, by unfold cutT; rw [← HE.out]; exact ho, HJ.out.mod⟩
    · have HE : Hid (rs.take i = rs.take 6) := Lib.hid (by rw [List.take_of_length_le (by have := HL.out; omega), List.take_of_length_le (by have := HL.out; omega)])
      go_wp2
      go_ret
      obtain ⟨svo, ho⟩ := HJ.out.out
      exact ⟨_, svo, rfl, by unfold cutT; rw [← HE.out]; exact ho, HJ.out.mod⟩
end Go.Proofs.YtegjamjognpdkaaGreat
