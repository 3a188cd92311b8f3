/- table.own: contract. -/
import Derived.Test.YtegjamjognpdkaaGreatOwnA
namespace Go.Proofs.YtegjamjognpdkaaGreat
open Go.RowKit
set_option linter.unusedVariables false
set_option linter.unusedSimpArgs false
theorem cellsR_set (u : Value) : ∀ (sv : Nat → Value) (l : List TRow) (k j : Nat), rowsOk l → j < l.length → (cellsR sv k l).set (j * 20 + 19) u = cellsR (fun i => if i = k + j then u else sv i) k l
  | _, [], _, _, _, h => by simp at h
  | sv, r :: l, k, 0, hok, h => by
    have hb := (hok _ List.mem_cons_self).1
    have hl : (r.c (sv k)).length = 20 := by rw [TRow.c, rowC_len _ _ _ _ _ hb]
    rw [cellsR, cellsR, List.set_append_left _ _ (by omega), Nat.zero_mul, Nat.zero_add, if_pos (show k = k + 0 from rfl)]
    congr 1
    · exact rowC_set _ _ _ _ _ _ hb
    · exact cellsR_ext _ _ _ _ fun i hi => by rw [if_neg (by omega)]
  | sv, r :: l, k, j + 1, hok, h => by
    have hb := (hok _ List.mem_cons_self).1
    have hl : (r.c (sv k)).length = 20 := by rw [TRow.c, rowC_len _ _ _ _ _ hb]
    rw [cellsR, cellsR, List.set_append_right _ _ (by omega), if_neg (by omega), hl, show (j + 1) * 20 + 19 - 20 = j * 20 + 19 by omega, cellsR_set u sv l (k + 1) j (fun y hy => hok y (List.mem_cons_of_mem _ hy)) (by simpa using h)]
    congr 1
    exact cellsR_ext _ _ _ _ fun i hi => by rw [show k + 1 + j = k + (j + 1) by omega]
theorem cellsR_one : ∀ (sv : Nat → Value) (l : List TRow) (k : Nat), (∀ i, i < l.length → (sv (k + i)).oneCell' = true) → ∀ u ∈ cellsR sv k l, u.oneCell' = true
  | _, [], _, _, u, h => by simp [cellsR] at h
  | sv, r :: l, k, ho, u, h => by
    rw [cellsR] at h
    rcases List.mem_append.1 h with h | h
    · exact rowC_one _ _ _ _ _ (ho 0 (by simp)) u h
    · exact cellsR_one sv l (k + 1) (fun i hi => by rw [show k + 1 + i = k + (i + 1) by omega]; exact ho (i + 1) (by simp; omega)) u h
theorem RowsAt.one {w : World} {v : Value} {rs : List TRow} {sv : Nat → Value} (h : RowsAt w v rs sv) : ∀ u ∈ cellsR sv 0 rs, u.oneCell' = true :=
  cellsR_one sv rs 0 fun i hi => by
    obtain ⟨_, _, e, _⟩ := h.next i rs[i] (List.getElem?_eq_getElem hi)
    rw [Nat.zero_add, e]
    rfl
theorem ints_one (xs : List Int) : ∀ u ∈ ints xs, u.oneCell' = true := by
  intro u hu
  unfold ints at hu
  obtain ⟨x, _, rfl⟩ := List.mem_map.1 hu
  rfl
/-- own's loop, j rounds behind -/
structure OwnJ (rs : List TRow) (sv : Nat → Value) (w wr : World) (v : Value) (j : Nat) (svj : Nat → Value) : Prop where
  row : Row wr (fun k => w.heap.size ≤ k) 28 20 v rs.length (cellsR svj 0 rs)
  next : ∀ i r, i < j → rs[i]? = some r → Row wr (fun k => w.heap.size ≤ k) 3 1 (svj i) r.next.length (ints r.next)
  mod : Mod (fun _ => False) w wr
theorem OwnJ.step {rs : List TRow} {sv svj : Nat → Value} {w wr w2 w3 : World} {v u : Value} {j g : Nat} {r : TRow} (h : OwnJ rs sv w wr v j svj) (hok : rowsOk rs) (hr : rs[j]? = some r) (hm : Mod (fun _ => False) wr w2) (hu : Row w2 (fun k => wr.heap.size ≤ k) 3 1 u r.next.length (ints r.next))
    (hrow : Row w3 (fun k => w.heap.size ≤ k) 28 20 v rs.length ((cellsR svj 0 rs).set (j * 20 + 19) u)) (hg : v.ownBlock = some g) (hm3 : Mod (fun k => k = g) w2 w3) : OwnJ rs sv w w3 v (j + 1) fun i => if i = j then u else svj i := by
  have hlt : j < rs.length := (List.getElem?_eq_some_iff.1 hr).1
  have hgw : w.heap.size ≤ g := h.row.2 g hg
  have hsz : w.heap.size ≤ wr.heap.size := h.mod.size
  have e : cellsR (fun i => if i = j then u else svj i) 0 rs = (cellsR svj 0 rs).set (j * 20 + 19) u := by
    rw [cellsR_set u svj rs 0 j hok hlt]
    exact cellsR_ext _ _ _ _ fun i hi => by simp
  have hm3' : Mod (fun k => v.ownBlock = some k) w2 w3 := hm3.mono fun k hk => .inl (hk ▸ hg)
  have hv2 : Row w2 (fun k => w.heap.size ≤ k) 28 20 v rs.length (cellsR svj 0 rs) := h.row.keep hm fun _ _ f => f
  refine ⟨by rw [e]; exact hrow, fun i q hi hq => ?_, (h.mod.trans hm fun _ f => f.elim).trans hm3 fun x hx => .inr (hx ▸ hgw)⟩
  by_cases hij : i = j
  · subst hij
    rw [hr] at hq
    injection hq with hq
    subst hq
    simp only [if_true]
    exact (hu.beside hv2 (by decide) hm3').mono fun k hk => Nat.le_trans hsz hk
  · simp only [if_neg hij]
    exact ((h.next i q (by omega) hq).keep hm fun _ _ f => f).beside hv2 (by decide) hm3'
theorem Row.at0 {w : World} {f : Nat → Prop} {e : TypeId} {sz n : Nat} {v : Value} {xs : List Value} (h : Row w f e sz v n xs) (h0 : 0 < n) : ∃ g cap, v = .slice (some ⟨g, 0, none⟩) n cap ∧ n ≤ cap ∧ cap ≤ maxLen ∧ f g := by
  obtain ⟨ad, cap, rfl, h1, h2, h3⟩ := h.form
  obtain ⟨g, rfl, hf, _⟩ := h3 h0
  exact ⟨g, cap, rfl, h1, h2, hf⟩
set_option maxRecDepth 100000 in
set_option maxHeartbeats 2000000 in
theorem own_any (v : Value) (rs : List TRow) (sv : Nat → Value) (w : World) (h : RowsAt w v rs sv) (hn : rs.length ≤ 2048) (hx : ∀ r ∈ rs, r.next.length ≤ 255) :
    Calls Tryz.prog 22 #[v] w fun e w' => ∃ v' sv', e = .returned v' ∧ RowsOwn w' (fun k => w.heap.size ≤ k) v' rs sv' ∧ Mod (fun _ => False) w w' := by
  have HH := Lib.hid h
  have HX := Lib.hid hx
  have HOK := Lib.hid h.ok
  obtain ⟨ad, cp, e0, hnc, hcm, hg⟩ := h.row
  subst e0
  unfold maxLen at hcm
  have HG := Lib.hid hg
  have HRS := Lib.hid rowSz
  obtain ⟨n, hnn⟩ : ∃ n, n = rs.length := ⟨_, rfl⟩
  rw [← hnn] at HG hnc hn HH ⊢
  have HL := Lib.hid hnn
  clear hg hx h hnn
  go_enter Tryz.func22, Tryz.ntmps22
  go_wp2_with fail
  refine (cloneR_any _ n (cellsR sv 0 rs) _ (HL.out ▸ HH.out.row) (by rw [cellsR_len _ _ _ HOK.out, HL.out]) HH.out.one (by omega)).mono ?_; rintro e w1 ⟨v1, rfl, hr1, hm1⟩
  have HJ0 : Hid (OwnJ rs sv w w1 v1 0 sv) := Lib.hid ⟨HL.out ▸ hr1, fun i r hi => by omega, hm1⟩
  clear hr1 hm1
  go_wp2_with fail
  go_loopw [10] (fun i wr => ∃ j : Nat, j ≤ n ∧ i = .int .i64 (j : Int) ∧ ∃ svj, OwnJ rs sv w wr v1 j svj) (fun i _ => n - (intOf i).toNat)
  case atStart => exact ⟨0, Nat.zero_le _, rfl, _, HJ0.out⟩
  case round =>
    obtain ⟨j, hj, rfl, svj, hJ⟩ := hrel
    have HJ := Lib.hid hJ
    clear hJ
    by_cases hlt : j < n
    · obtain ⟨g, o, rfl, hcg⟩ := HG.out (by omega)
      have hrw := HJ.out.row
      rw [← HL.out] at hrw
      obtain ⟨g1, cp1, rfl, hnc1, hcm1, hg1⟩ := hrw.at0 (by omega)
      unfold maxLen at hcm1
      clear hrw
      obtain ⟨r, hr⟩ : ∃ r, rs[j]? = some r := ⟨_, List.getElem?_eq_getElem (by have := HL.out; omega)⟩
      have HR := Lib.hid hr
      have HRA := Lib.hid (keepRange HJ.out.mod (rows_get hcg HOK.out hr))
      have HO := Lib.hid (HOK.out r (List.mem_of_getElem? hr))
      have HN := Lib.hid ((HH.out.next j r hr).keep0 HJ.out.mod)
      have HRZ : Hid ((Tryz.prog.info? 28).map (·.size) = some (r.c (sv j)).length) := Lib.hid (by rw [TRow.c, rowC_len _ _ _ _ _ HO.out.1]; exact HRS.out)
      have HONE : Hid (∀ u ∈ r.c (sv j), u.oneCell' = true) := Lib.hid (rowC_one _ _ _ _ _ (by obtain ⟨_, _, e, _⟩ := HN.out; rw [e]; rfl))
      have HFIT : Hid (0 + (r.c (sv j)).length ≤ (rowC 0 false z16 0 (.slice none 0 0)).length) := Lib.hid (by rw [TRow.c, rowC_len _ _ _ _ _ HO.out.1, rowC_len _ _ _ _ _ rfl]; decide)
      have HNB := Lib.hid (Blk.new wr 28 (rowC 0 false z16 0 (.slice none 0 0)))
      have HXN := Lib.hid (HX.out r (List.mem_of_getElem? hr))
      clear hr hcg
      go_wp2_with (first | (refine wpList_load_midG rfl _ _ rfl g (o + j * 20) rfl (r.c (sv j)) _ HRA.out Tryz.underlying28 rfl HRZ.out ?_) | (refine wpList_store_blk rfl _ _ _ rfl wr.heap.size 0 28 (rowC 0 false z16 0 (.slice none 0 0)) (r.c (sv j)) rfl rfl HNB.out HFIT.out HRZ.out HONE.out ?_; intro w3 HB3 HM3; have c19 : w3.cell? ⟨wr.heap.size, 19, none⟩ = some (sv j) := (splice_all HB3.out (by rw [TRow.c, rowC_len _ _ _ _ _ HO.out.1, rowC_len _ _ _ _ _ rfl])).cell (rowC_19 _ _ _ _ _ HO.out.1)))
      have hm3 : Mod (fun _ => False) wr w3 := (((Mod.refl _ _).alloc _).trans HM3.out fun x hx => .inr (by omega))
      have HN3 := Lib.hid (HN.out.keep0 hm3)
      refine (cloneI_any (sv j) r.next.length (ints r.next) _ HN3.out (by simp [ints]) (ints_one _) (by have := HXN.out; omega)).mono ?_; rintro e w4 ⟨u, rfl, hu, hm4⟩
      have HM4 := Lib.hid (hm3.trans hm4 fun _ f => f.elim)
      have HU := Lib.hid (hu.mono fun k hk => Nat.le_trans hm3.size hk)
      have HUO : Hid (u.oneCell' = true) := Lib.hid (by obtain ⟨_, _, e, _⟩ := hu.form; rw [e]; rfl)
      have HV4 := Lib.hid (HJ.out.row.keep HM4.out fun _ _ f => f)
      have HFT : Hid (j * 20 + 19 < (cellsR svj 0 rs).length) := Lib.hid (by rw [cellsR_len _ _ _ HOK.out, ← HL.out]; omega)
      rw [← HL.out] at HV4
      clear hm3 hu hm4 c19
      go_wp2_with (refine wpList_store_row1 rfl _ _ _ rfl HV4.out g1 (j * 20 + 19) u rfl rfl rfl HFT.out sliceSz HUO.out ?_; intro w5 HV5 HM5)
      have HJ5 := Lib.hid (HJ.out.step HOK.out HR.out HM4.out HU.out (by rw [← HL.out]; exact HV5.out) rfl HM5.out)
      go_roundw
      case rel => exact ⟨j + 1, by omega, by go_num, _, HJ5.out⟩
      case measure => simp [intOf]; omega
    · obtain rfl : j = n := by omega
      go_wp2
      go_ret
      exact ⟨_, svj, rfl, ⟨HJ.out.row, HOK.out, fun i r hr => HJ.out.next i r (by have := (List.getElem?_eq_some_iff.1 hr).1; have := HL.out; omega) hr⟩, HJ.out.mod⟩
end Go.Proofs.YtegjamjognpdkaaGreat
