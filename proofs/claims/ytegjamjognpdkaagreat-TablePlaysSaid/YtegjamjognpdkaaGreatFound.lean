/- acequiaref23.Same of equal lists, acequialaw35.found: contracts. -/
import Derived.Test.YtegjamjognpdkaaGreatRefW
import Derived.Test.YtegjamjognpdkaaGreatTabE
namespace Go.Proofs.YtegjamjognpdkaaGreat
open Go.RowKit
set_option linter.unusedVariables false
set_option linter.unusedSimpArgs false
def esV (es : List VE) : List (Int × List TRow) := es.map fun e => (e.n, e.rs)
theorem hasV_es : ∀ (es : List VE) (v : Int), hasV (esV es) v = (idxV es v).bind fun i => (es[i]?).map (·.rs)
  | [], _ => rfl
  | e :: es, v => by
    have ih := hasV_es es v
    unfold hasV esV at *
    rw [List.map_cons, List.find?_cons]
    unfold idxV
    by_cases h : e.n = v
    · simp [h]
    · have hb : (e.n == v) = false := by simp [h]
      simp only [hb, if_neg h]
      rw [ih]
      cases idxV es v <;> simp
theorem placeR_at : ∀ {rs : List TRow} {x : TRow} {j : Nat} {r : TRow}, (∀ (i : Nat) (q : TRow), i < j → rs[i]? = some q → sameK x q = false) → rs[j]? = some r → sameK x r = true → placeR x rs = some j
  | [], _, _, _, _, h, _ => by simp at h
  | q :: rs, x, 0, r, _, h, hs => by
    simp at h
    subst h
    simp [placeR, hs]
  | q :: rs, x, j + 1, r, hb, h, hs => by
    have h0 := hb 0 q (by omega) rfl
    have := placeR_at (j := j) (fun i y hi hy => hb (i + 1) y (by omega) (by simpa using hy)) (by simpa using h) hs
    simp [placeR, h0, this]
theorem placeR_no : ∀ {rs : List TRow} {x : TRow}, (∀ (i : Nat) (q : TRow), rs[i]? = some q → sameK x q = false) → placeR x rs = none := fun h => placeR_none fun r hr => by
  obtain ⟨i, hi, rfl⟩ := List.getElem_of_mem hr
  exact h i _ (List.getElem?_eq_getElem hi)
theorem wpList_valW {P : Program} {ops : Array Oper} {rest : List Oper} {o : Oper} {a : Act} {w : World} {Q : Exit → Act → World → Prop} (hw : Region.wanted o (yielded ops a.tmps) = true) (v : Value) (hr : (execOp a.eval o).run P w = .ok (.value v) w) (h : wpList P ops Q rest (a.put o.dst v) w) : wpList P ops Q (o :: rest) a w :=
  wpList_step fun K hK => by
    rw [if_pos hw]
    unfold Oper.wp
    rw [hr]
    exact hK _ _ h
set_option maxRecDepth 100000 in
set_option maxHeartbeats 8000000 in
theorem refNext_any {w : World} {f : Nat → Prop} {xb : Nat} {es : List VE} {now : Int} {is : Bool} {lv : Value} (h : RT w f xb es now is lv) (v : Int) (x : TRow) (svx : Value) (hx : x.b.length = 16) :
    Calls Tryz.prog 34 #[.pointer (some ⟨xb, 0, none⟩), .int .u32 v, .agg (x.c svx).toArray] w fun e w' => ∃ u, e = .returned (.tuple #[u, .bool (nextT (esV es) v x).isSome]) ∧ Row w' f 3 1 u ((nextT (esV es) v x).getD []).length (ints ((nextT (esV es) v x).getD [])) ∧ Mod (fun _ => False) w w' := by
  obtain ⟨ad, cp, rfl, hnc, hcm, hg⟩ := h.row.form
  unfold maxLen at hcm
  obtain ⟨ne, hnn⟩ : ∃ ne, ne = es.length := ⟨_, rfl⟩
  rw [← hnn] at hnc hg
  have hB := Blk.new w 28 (x.c svx)
  have hm0 : Mod (fun _ => False) w (w.alloc (.cells (x.c svx).toArray 28 (0, 0))) := (Mod.refl _ _).alloc _
  have hT := h.keep hm0 (fun k _ f => f) fun f => f
  have c0 : (w.alloc (.cells (x.c svx).toArray 28 (0, 0))).cell? ⟨xb, 0, none⟩ = some (.slice ad ne cp) := by have := hT.tab.cell (j := 0) rfl; rwa [← hnn] at this
  have HF := Lib.hid (refFind_any hT v)
  have HT := Lib.hid hT
  have HG := Lib.hid hg
  have HM0 := Lib.hid hm0
  have HB := Lib.hid hB
  have HX := Lib.hid hx
  have HL := Lib.hid hnn
  have HNIL : Hid (∀ W : World, Row W f 3 1 (.slice none 0 0) ([] : List Int).length (ints [])) := Lib.hid fun W => Row.nil W f 3 1
  obtain ⟨R, hR⟩ : ∃ R, R = nextT (esV es) v x := ⟨_, rfl⟩
  rw [← hR]
  have HRR := Lib.hid hR
  cases hi : idxV es v with
  | none =>
    have hfi : findI es v = -1 := by unfold findI; rw [hi]
    rw [hfi] at HF
    have HN : Hid (R = none) := Lib.hid (by rw [hR]; unfold nextT; rw [hasV_es, hi]; rfl)
    clear h hB hm0 hT hg hx hnn hR hi hfi
    go_enter Tryz.func34, Tryz.ntmps34
    go_wp2_with (go_at_call 15; refine HF.out.mono ?_; rintro e w' ⟨rfl, rfl⟩)
    go_ret2
    rw [HN.out]
    exact ⟨_, rfl, HNIL.out _, HM0.out⟩
  | some i =>
    obtain ⟨e, he, hen⟩ := idxV_some hi
    have hil : i < ne := by rw [hnn]; exact (List.getElem?_eq_some_iff.1 he).1
    have hfi : findI es v = (i : Int) := by unfold findI; rw [hi]
    have hlt0 : decide ((i : Int) < 0) = false := decide_eq_false (by omega)
    rw [hfi] at HF
    have hhas : hasV (esV es) v = some e.rs := by rw [hasV_es, hi, Option.bind_some, he]; rfl
    obtain ⟨g, rfl, _, _, hc⟩ := hg (by omega)
    obtain ⟨sv, hs⟩ := HT.out.rows e (List.mem_of_getElem? he)
    obtain ⟨adr, cpr, hrv, hnr, hcr, hgr⟩ := hs.row.form
    unfold maxLen at hcr
    have cr := hm0.cell (fun f => f) (hc _ _ (cellsV_get es i e he).2)
    rw [hrv] at cr hs
    obtain ⟨nr, hnrr⟩ : ∃ nr, nr = e.rs.length := ⟨_, rfl⟩
    rw [← hnrr] at cr hnr hgr hs
    have HS := Lib.hid hs
    have HGR := Lib.hid hgr
    have HLR := Lib.hid hnrr
    have HHAS := Lib.hid hhas
    have HCR := Lib.hid cr
    have HC0 := Lib.hid c0
    clear h hB hm0 hT hg hx hnn hR hi hfi he hen hhas hc hs hgr hnrr hrv cr
    go_enter Tryz.func34, Tryz.ntmps34
    go_wp2_with (go_at_call 15; refine HF.out.mono ?_; rintro e w' ⟨rfl, rfl⟩)
    obtain ⟨W1, hW1⟩ : ∃ W1, W1 = w.alloc (.cells (x.c svx).toArray 28 (0, 0)) := ⟨_, rfl⟩
    obtain ⟨px, hpx⟩ : ∃ px, px = w.heap.size := ⟨_, rfl⟩
    rw [← hW1] at HC0 HCR HB HS HT HM0
    rw [← hpx] at HB
    try rw [← hW1]
    try rw [← hpx]
    clear c0 HG HF hW1 hpx
    go_loopw [9] (fun jv wr => ∃ j : Nat, j ≤ nr ∧ jv = .int .i64 (j : Int) ∧ Mod (fun _ => False) W1 wr ∧ ∀ (k : Nat) (q : TRow), k < j → e.rs[k]? = some q → sameK x q = false) (fun jv _ => nr - (intOf jv).toNat)
    case atStart => exact ⟨0, Nat.zero_le _, rfl, Mod.refl _ _, fun k q hk => by omega⟩
    case round =>
      obtain ⟨j, hj, rfl, hm, hall⟩ := hrel
      have HM := Lib.hid hm
      have HALL := Lib.hid hall
      have c0 := hm.cell (fun f => f) HC0.out
      have cr := hm.cell (fun f => f) HCR.out
      clear hm hall
      by_cases hlt : j < nr
      · obtain ⟨gr, rfl, _, _, _⟩ := HGR.out (by omega)
        obtain ⟨q, hq⟩ : ∃ q, e.rs[j]? = some q := ⟨_, List.getElem?_eq_getElem (by have := HLR.out; omega)⟩
        have HQ := Lib.hid hq
        have HO := Lib.hid (HS.out.ok q (List.mem_of_getElem? hq))
        have HRA := Lib.hid (keepRange HM.out (HS.out.rowAt' hq))
        have HRZ : Hid ((Tryz.prog.info? 28).map (·.size) = some (q.c (sv j)).length) := Lib.hid (by rw [TRow.c, rowC_len _ _ _ _ _ HO.out.1]; exact rowSz)
        have HONE : Hid (∀ u ∈ q.c (sv j), u.oneCell' = true) := Lib.hid (rowC_one _ _ _ _ _ (by obtain ⟨_, _, e, _⟩ := (HS.out.next j q hq).form; rw [e]; rfl))
        have HFIT : Hid (0 + (q.c (sv j)).length ≤ (rowC 0 false z16 0 (.slice none 0 0)).length) := Lib.hid (by rw [TRow.c, rowC_len _ _ _ _ _ HO.out.1, rowC_len _ _ _ _ _ rfl]; decide)
        have HNB := Lib.hid (Blk.new wr 28 (rowC 0 false z16 0 (.slice none 0 0)))
        have HAZ : Hid ((Tryz.prog.info? 25).map (·.size) = some (adrC q.v6 q.b).length) := Lib.hid (by rw [adrC_len, HO.out.1]; exact adrSz)
        have HAX : Hid ((Tryz.prog.info? 25).map (·.size) = some (adrC x.v6 x.b).length) := Lib.hid (by rw [adrC_len, HX.out]; exact adrSz)
        have HBX := Lib.hid (HB.out.keep HM.out fun f => f)
        clear hq
        by_cases hv : q.vlan = x.vlan
        · have hvb : (q.vlan == x.vlan) = true := by simp [hv]
          have hvd : decide (q.vlan = x.vlan) = true := decide_eq_true hv
          have HV := Lib.hid hv
          by_cases hge : q.v6 = x.v6 ∧ q.b = x.b
          · have HGE : Hid (decide (q.v6 = x.v6 ∧ q.b = x.b) = true) := Lib.hid (decide_eq_true hge)
            have HGE' := Lib.hid hge
            by_cases hro : q.root = x.root
            · have hrb : (q.root == x.root) = true := by simp [hro]
              have hrd : decide (q.root = x.root) = true := decide_eq_true hro
              have HSK : Hid (sameK x q = true) := Lib.hid (by unfold sameK; exact decide_eq_true ⟨hv.symm, ⟨hge.1.symm, hge.2.symm⟩, hro.symm⟩)
              have HN : Hid (R = some q.next) := Lib.hid (by
                rw [HRR.out]; unfold nextT; rw [HHAS.out, Option.bind_some, placeR_at HALL.out HQ.out HSK.out, Option.map_some, getD_get e.rs j (by have := HLR.out; omega)]
                have := HQ.out
                rw [List.getElem?_eq_getElem (by have := HLR.out; omega)] at this
                exact congrArg (fun r => some r.next) (Option.some.inj this))
              clear hv hge hro
              go_wp2_with (first | (refine wpList_load_midG rfl _ _ rfl gr (j * 20) rfl (q.c (sv j)) _ HRA.out Tryz.underlying28 rfl HRZ.out ?_) | (refine wpList_store_blk rfl _ _ _ rfl wr.heap.size 0 28 (rowC 0 false z16 0 (.slice none 0 0)) (q.c (sv j)) rfl rfl HNB.out HFIT.out HRZ.out HONE.out ?_; intro w3 HB3 HM3; have HBQ : Hid (Blk w3 wr.heap.size 28 (q.c (sv j))) := Lib.hid (splice_all HB3.out (by rw [TRow.c, rowC_len _ _ _ _ _ HO.out.1, rowC_len _ _ _ _ _ rfl])); have HM3W : Hid (Mod (fun _ => False) wr w3) := Lib.hid (((Mod.refl _ _).alloc _).trans HM3.out fun k hk => .inr (by omega)); have HBX3 := Lib.hid (HBX.out.keep HM3W.out fun f => f); have k0 := HBQ.out.cell (j := 0) (rowC_0 ..); have k18 := HBQ.out.cell (j := 18) (rowC_18 _ _ _ _ _ HO.out.1); have k19 := HBQ.out.cell (j := 19) (rowC_19 _ _ _ _ _ HO.out.1); have x0 := HBX3.out.cell (j := 0) (rowC_0 ..); have x18 := HBX3.out.cell (j := 18) (rowC_18 _ _ _ _ _ HX.out)) | (refine wpList_load_blk rfl _ _ rfl wr.heap.size 1 rfl 28 (q.c (sv j)) (adrC q.v6 q.b) _ HBQ.out (rowC_adrs' q (sv j) HO.out.1) Tryz.underlying25 rfl HAZ.out ?_) | (refine wpList_load_blk rfl _ _ rfl px 1 rfl 28 (x.c svx) (adrC x.v6 x.b) _ HBX3.out (rowC_adrs' x svx HX.out) Tryz.underlying25 rfl HAX.out ?_) | (refine wpList_valW rfl (.bool true) ((exec_eq_adr rfl q.v6 x.v6 q.b x.b HO.out.1 HX.out rfl rfl _).trans (by rw [HGE.out])) ?_))
              go_ret2
              rw [HN.out]
              exact ⟨sv j, rfl, (((HS.out.next j q HQ.out).keep HM.out fun _ _ f => f).keep HM3W.out fun _ _ f => f), (HM0.out.trans HM.out fun _ f => f.elim).trans HM3W.out fun _ f => f.elim⟩
            · have hrb : (q.root == x.root) = false := by simp [hro]
              have hrd : decide (q.root = x.root) = false := decide_eq_false hro
              have HNS : Hid (sameK x q = false) := Lib.hid (by unfold sameK; exact decide_eq_false fun h => hro h.2.2.symm)
              have HA2 : Hid (∀ (k : Nat) (q : TRow), k < j + 1 → e.rs[k]? = some q → sameK x q = false) := Lib.hid fun k y hk hy => by
                rcases Nat.lt_or_ge k j with h | h
                · exact HALL.out k y h hy
                · obtain rfl : k = j := by omega
                  rw [HQ.out] at hy
                  cases hy
                  exact HNS.out
              clear hv hge hro
              go_wp2_with (first | (refine wpList_load_midG rfl _ _ rfl gr (j * 20) rfl (q.c (sv j)) _ HRA.out Tryz.underlying28 rfl HRZ.out ?_) | (refine wpList_store_blk rfl _ _ _ rfl wr.heap.size 0 28 (rowC 0 false z16 0 (.slice none 0 0)) (q.c (sv j)) rfl rfl HNB.out HFIT.out HRZ.out HONE.out ?_; intro w3 HB3 HM3; have HBQ : Hid (Blk w3 wr.heap.size 28 (q.c (sv j))) := Lib.hid (splice_all HB3.out (by rw [TRow.c, rowC_len _ _ _ _ _ HO.out.1, rowC_len _ _ _ _ _ rfl])); have HM3W : Hid (Mod (fun _ => False) wr w3) := Lib.hid (((Mod.refl _ _).alloc _).trans HM3.out fun k hk => .inr (by omega)); have HBX3 := Lib.hid (HBX.out.keep HM3W.out fun f => f); have k0 := HBQ.out.cell (j := 0) (rowC_0 ..); have k18 := HBQ.out.cell (j := 18) (rowC_18 _ _ _ _ _ HO.out.1); have k19 := HBQ.out.cell (j := 19) (rowC_19 _ _ _ _ _ HO.out.1); have x0 := HBX3.out.cell (j := 0) (rowC_0 ..); have x18 := HBX3.out.cell (j := 18) (rowC_18 _ _ _ _ _ HX.out)) | (refine wpList_load_blk rfl _ _ rfl wr.heap.size 1 rfl 28 (q.c (sv j)) (adrC q.v6 q.b) _ HBQ.out (rowC_adrs' q (sv j) HO.out.1) Tryz.underlying25 rfl HAZ.out ?_) | (refine wpList_load_blk rfl _ _ rfl px 1 rfl 28 (x.c svx) (adrC x.v6 x.b) _ HBX3.out (rowC_adrs' x svx HX.out) Tryz.underlying25 rfl HAX.out ?_) | (refine wpList_valW rfl (.bool true) ((exec_eq_adr rfl q.v6 x.v6 q.b x.b HO.out.1 HX.out rfl rfl _).trans (by rw [HGE.out])) ?_))
              go_roundw
              case rel => exact ⟨j + 1, by omega, by go_num, HM.out.trans HM3W.out fun _ f => f.elim, HA2.out⟩
              case measure => simp [intOf]; omega
          · have HGE : Hid (decide (q.v6 = x.v6 ∧ q.b = x.b) = false) := Lib.hid (decide_eq_false hge)
            have HNS : Hid (sameK x q = false) := Lib.hid (by unfold sameK; exact decide_eq_false fun h => hge ⟨h.2.1.1.symm, h.2.1.2.symm⟩)
            have HA2 : Hid (∀ (k : Nat) (q : TRow), k < j + 1 → e.rs[k]? = some q → sameK x q = false) := Lib.hid fun k y hk hy => by
              rcases Nat.lt_or_ge k j with h | h
              · exact HALL.out k y h hy
              · obtain rfl : k = j := by omega
                rw [HQ.out] at hy
                cases hy
                exact HNS.out
            clear hv hge
            go_wp2_with (first | (refine wpList_load_midG rfl _ _ rfl gr (j * 20) rfl (q.c (sv j)) _ HRA.out Tryz.underlying28 rfl HRZ.out ?_) | (refine wpList_store_blk rfl _ _ _ rfl wr.heap.size 0 28 (rowC 0 false z16 0 (.slice none 0 0)) (q.c (sv j)) rfl rfl HNB.out HFIT.out HRZ.out HONE.out ?_; intro w3 HB3 HM3; have HBQ : Hid (Blk w3 wr.heap.size 28 (q.c (sv j))) := Lib.hid (splice_all HB3.out (by rw [TRow.c, rowC_len _ _ _ _ _ HO.out.1, rowC_len _ _ _ _ _ rfl])); have HM3W : Hid (Mod (fun _ => False) wr w3) := Lib.hid (((Mod.refl _ _).alloc _).trans HM3.out fun k hk => .inr (by omega)); have HBX3 := Lib.hid (HBX.out.keep HM3W.out fun f => f); have k0 := HBQ.out.cell (j := 0) (rowC_0 ..); have k18 := HBQ.out.cell (j := 18) (rowC_18 _ _ _ _ _ HO.out.1); have k19 := HBQ.out.cell (j := 19) (rowC_19 _ _ _ _ _ HO.out.1); have x0 := HBX3.out.cell (j := 0) (rowC_0 ..); have x18 := HBX3.out.cell (j := 18) (rowC_18 _ _ _ _ _ HX.out)) | (refine wpList_load_blk rfl _ _ rfl wr.heap.size 1 rfl 28 (q.c (sv j)) (adrC q.v6 q.b) _ HBQ.out (rowC_adrs' q (sv j) HO.out.1) Tryz.underlying25 rfl HAZ.out ?_) | (refine wpList_load_blk rfl _ _ rfl px 1 rfl 28 (x.c svx) (adrC x.v6 x.b) _ HBX3.out (rowC_adrs' x svx HX.out) Tryz.underlying25 rfl HAX.out ?_) | (refine wpList_valW rfl (.bool false) ((exec_eq_adr rfl q.v6 x.v6 q.b x.b HO.out.1 HX.out rfl rfl _).trans (by rw [HGE.out])) ?_))
            go_roundw
            case rel => exact ⟨j + 1, by omega, by go_num, HM.out.trans HM3W.out fun _ f => f.elim, HA2.out⟩
            case measure => simp [intOf]; omega
        · have hvb : (q.vlan == x.vlan) = false := by simp [hv]
          have hvd : decide (q.vlan = x.vlan) = false := decide_eq_false hv
          have HNS : Hid (sameK x q = false) := Lib.hid (by unfold sameK; exact decide_eq_false fun h => hv h.1.symm)
          have HA2 : Hid (∀ (k : Nat) (q : TRow), k < j + 1 → e.rs[k]? = some q → sameK x q = false) := Lib.hid fun k y hk hy => by
            rcases Nat.lt_or_ge k j with h | h
            · exact HALL.out k y h hy
            · obtain rfl : k = j := by omega
              rw [HQ.out] at hy
              cases hy
              exact HNS.out
          clear hv
          go_wp2_with (first | (refine wpList_load_midG rfl _ _ rfl gr (j * 20) rfl (q.c (sv j)) _ HRA.out Tryz.underlying28 rfl HRZ.out ?_) | (refine wpList_store_blk rfl _ _ _ rfl wr.heap.size 0 28 (rowC 0 false z16 0 (.slice none 0 0)) (q.c (sv j)) rfl rfl HNB.out HFIT.out HRZ.out HONE.out ?_; intro w3 HB3 HM3; have HBQ : Hid (Blk w3 wr.heap.size 28 (q.c (sv j))) := Lib.hid (splice_all HB3.out (by rw [TRow.c, rowC_len _ _ _ _ _ HO.out.1, rowC_len _ _ _ _ _ rfl])); have HM3W : Hid (Mod (fun _ => False) wr w3) := Lib.hid (((Mod.refl _ _).alloc _).trans HM3.out fun k hk => .inr (by omega)); have HBX3 := Lib.hid (HBX.out.keep HM3W.out fun f => f); have k0 := HBQ.out.cell (j := 0) (rowC_0 ..); have k18 := HBQ.out.cell (j := 18) (rowC_18 _ _ _ _ _ HO.out.1); have k19 := HBQ.out.cell (j := 19) (rowC_19 _ _ _ _ _ HO.out.1); have x0 := HBX3.out.cell (j := 0) (rowC_0 ..); have x18 := HBX3.out.cell (j := 18) (rowC_18 _ _ _ _ _ HX.out)))
          go_roundw
          case rel => exact ⟨j + 1, by omega, by go_num, HM.out.trans HM3W.out fun _ f => f.elim, HA2.out⟩
          case measure => simp [intOf]; omega
      · obtain rfl : j = nr := by omega
        have HN : Hid (R = none) := Lib.hid (by
          rw [HRR.out]; unfold nextT; rw [HHAS.out, Option.bind_some, placeR_no fun i q hq => HALL.out i q (by have := (List.getElem?_eq_some_iff.1 hq).1; have := HLR.out; omega) hq]; rfl)
        go_wp2
        go_ret2
        rw [HN.out]
        exact ⟨_, rfl, HNIL.out _, HM0.out.trans HM.out fun _ f => f.elim⟩
end Go.Proofs.YtegjamjognpdkaaGreat
namespace Go.Proofs.YtegjamjognpdkaaGreat
open Go.RowKit
set_option linter.unusedVariables false
set_option linter.unusedSimpArgs false
theorem calls_new2 {P : Program} {fn : FuncId} {args : Array Value} {w : World} {cs cs' : List Value} {t t' : TypeId} {R : Ending → World → Prop} (h : ∀ W : World, Hid (Blk W w.heap.size t cs) → Hid (Blk W (w.heap.size + 1) t' cs') → Hid (Mod (fun _ => False) w W) → Calls P fn args W R) :
    Calls P fn args ((w.alloc (.cells cs.toArray t (0, 0))).alloc (.cells cs'.toArray t' (0, 0))) R :=
  h _ (Lib.hid ((Blk.new w t cs).alloc _)) (Lib.hid (by have := Blk.new (w.alloc (.cells cs.toArray t (0, 0))) t' cs'; rwa [show (w.alloc (.cells cs.toArray t (0, 0))).heap.size = w.heap.size + 1 by simp] at this)) (Lib.hid (((Mod.refl _ _).alloc _).alloc _))
theorem run_build2 (v v' : Bool) (b b' : List Int) (hb : b.length = 16) (hb' : b'.length = 16) (w : World) : (Instr.buildSlice 111 2 #[(0, .agg (adrC v b).toArray), (1, .agg (adrC v' b').toArray)]).run Tryz.prog w = .ok (.slice (some ⟨w.heap.size, 0, none⟩) 2 2) (w.alloc (.cells (adrC v b ++ adrC v' b').toArray 25 (0, 0))) := by
  obtain ⟨a, c, d, e, f, g, h, i, j, k, m, n, o, p, q, r, rfl⟩ := list16 b hb
  obtain ⟨a', c', d', e', f', g', h', i', j', k', m', n', o', p', q', r', rfl⟩ := list16 b' hb'
  kernel_rfl
theorem wpList_build2 {w : World} {ops : Array Oper} {rest : List Oper} {o : Oper} {a : Act} {Q : Exit → Act → World → Prop} (hgd : o.guard = none) (x y : Operand) (ho : o.op = .buildSlice 111 2 #[(0, x), (1, y)]) (v v' : Bool) (b b' : List Int) (hb : b.length = 16) (hb' : b'.length = 16)
    (hx : a.eval x = .agg (adrC v b).toArray) (hy : a.eval y = .agg (adrC v' b').toArray)
    (h : ∀ W : World, Hid (Blk W w.heap.size 25 (adrC v b ++ adrC v' b')) → Hid (Mod (fun _ => False) w W) → wpList Tryz.prog ops Q rest (a.put o.dst (.slice (some ⟨w.heap.size, 0, none⟩) 2 2)) W) : wpList Tryz.prog ops Q (o :: rest) a w :=
  wpList_plain hgd fun K hK => by
    have hr := run_build2 v v' b b' hb hb' w
    unfold Oper.wp
    simp [execOp, ho, hx, hy, hr, Result.andThen]
    exact hK _ _ (h _ (Lib.hid (Blk.new w _ _)) (Lib.hid ((Mod.refl _ _).alloc _)))
/-- all groups of the family -/
def allT (x : TRow) : TRow := ⟨x.vlan, x.v6, z16, x.root, []⟩
def bI (x : TRow) (i : Nat) : List Int := if i = 0 then x.b else z16
def xI (x : TRow) (i : Nat) : TRow := ⟨x.vlan, x.v6, bI x i, x.root, []⟩
theorem placeR_key (x y : TRow) (h : x.vlan = y.vlan ∧ x.v6 = y.v6 ∧ x.b = y.b ∧ x.root = y.root) : ∀ rs : List TRow, placeR x rs = placeR y rs
  | [] => rfl
  | r :: rs => by
    unfold placeR
    rw [placeR_key x y h rs]
    unfold sameK
    rw [h.1, h.2.1, h.2.2.1, h.2.2.2]
def fndA (vs : List (Int × List TRow)) (v : Int) (x : TRow) : List Value := if (nextT vs v x).isSome then adrC x.v6 x.b else if (nextT vs v (allT x)).isSome then adrC x.v6 z16 else adrC false z16
def fndB (vs : List (Int × List TRow)) (v : Int) (x : TRow) : Bool := (nextT vs v x).isSome || (nextT vs v (allT x)).isSome
theorem nextT_is {vs : List (Int × List TRow)} {v : Int} {rs : List TRow} (h : hasV vs v = some rs) (x : TRow) : (nextT vs v x).isSome = (placeR x rs).isSome := by
  unfold nextT
  rw [h, Option.bind_some, Option.isSome_map]
theorem tbl_mod {w w1 w2 : World} {F : Nat → Prop} {vb : Nat} (h1 : Mod (fun _ => False) w w1) (h2 : Mod (fun q => q = vb) w1 w2) (hf : F vb) : Mod F w w2 := (h1.mono fun _ f => f.elim).trans h2 fun q hq => .inl (by rw [show q = vb from hq]; exact hf)
theorem fndDone {w W2 w4 w5 : World} {f gg : Nat → Prop} {tb mb vb pr : Nat} {now v : Int} {rs : List TRow} {rv : Value} {sv : Nat → Value} {vs : List (Int × List TRow)} {vbo : Int → Nat} {g : Int → Nat → Prop} (h2 : TabIn W2 (fun k => f k ∧ k < w.heap.size) tb now vs mb vbo g) (hmem : (v, rs) ∈ vs) (hvb : vb = vbo v) (hv : VerIn w4 gg vb rs rv sv) (hgg : ∀ k, gg k → g v k ∨ W2.heap.size ≤ k)
    (hw : Mod (fun _ => False) w W2) (hm : Mod (fun q => q = vb) W2 w4) (hm5 : Mod (fun q => q = pr) w4 w5) (hpr : pr ≠ vb ∧ pr < W2.heap.size ∧ w.heap.size ≤ pr) : TabAt w5 (fun k => f k ∨ w.heap.size ≤ k) tb now vs ∧ Mod f w w5 := by
  subst hvb
  have ho := (h2.ver _ hmem).own
  have hfo := (h2.sub _ _ ho).1.1
  have h4 := h2.find hmem ⟨rv, sv, hv.mono fun k hk _ => hgg k hk⟩ hm
  refine ⟨(h4.keep hm5 fun k hk e => by have e : k = pr := e; rcases hk with hk | hk <;> omega).mono fun k hk _ => ?_, ?_⟩
  · rcases hk with hk | hk
    · exact .inl hk.1
    · exact .inr (Nat.le_trans hw.size hk)
  · exact ((hw.mono fun _ f => f.elim).trans hm fun q hq => .inl (by rw [show q = vbo v from hq]; exact hfo)).trans hm5 fun q hq => .inr (by rw [show q = pr from hq]; exact hpr.2.2)
set_option maxRecDepth 100000 in
set_option maxHeartbeats 8000000 in
theorem tFind_any {w : World} {f : Nat → Prop} {tb : Nat} {now : Int} {vs : List (Int × List TRow)} (h : TabAt w f tb now vs) (v : Int) (x : TRow) (hx : x.b.length = 16) :
    Calls Tryz.prog 35 #[.pointer (some ⟨tb, 0, none⟩), .int .u32 v, .int .i64 x.vlan, .agg (adrC x.v6 x.b).toArray, .int .i64 x.root] w fun e w' => e = .returned (.tuple #[.agg (fndA vs v x).toArray, .bool (fndB vs v x)]) ∧ TabAt w' (fun k => f k ∨ w.heap.size ≤ k) tb now vs ∧ Mod f w w' := by
  obtain ⟨mb, vbo, g, h⟩ := h.mono (f' := fun k => f k ∧ k < w.heap.size) fun k hk hl => ⟨hk, hl⟩
  have HT := Lib.hid h
  have HX := Lib.hid hx
  have HSZ : Hid ((Tryz.prog.info? 25).map (·.size) = some (adrC false z16).length) := Lib.hid adrSz
  have HSX : Hid ((Tryz.prog.info? 25).map (·.size) = some (adrC x.v6 x.b).length) := Lib.hid (by rw [adrC_len, hx]; exact adrSz)
  obtain ⟨FA, hFA⟩ : ∃ FA, FA = fndA vs v x := ⟨_, rfl⟩
  obtain ⟨FB, hFB⟩ : ∃ FB, FB = fndB vs v x := ⟨_, rfl⟩
  rw [← hFA, ← hFB]
  have HFA := Lib.hid hFA
  have HFB := Lib.hid hFB
  clear h hx hFA hFB
  go_enter Tryz.func35, Tryz.ntmps35
  go_wp2_with fail
  refine calls_new2 (t := 25) (t' := 25) (cs := adrC x.v6 x.b) (cs' := adrC false z16) fun W1 HA1 HR1 HM1 => ?_
  have HT1 := Lib.hid (HT.out.keep HM1.out fun k _ f => f)
  refine (vof_any HT1.out v).mono ?_; rintro e W1' ⟨rfl, rfl⟩
  cases hv : hasV vs v with
  | none =>
    have HN : Hid (nextT vs v x = none ∧ nextT vs v (allT x) = none) := Lib.hid ⟨by unfold nextT; rw [hv]; rfl, by unfold nextT; rw [hv]; rfl⟩
    clear hv
    go_wp2_with (refine wpList_store_blk rfl _ _ _ rfl (w.heap.size + 1) 0 25 (adrC false z16) (adrC false z16) rfl rfl HR1.out (by decide) HSZ.out (adrC_one _ _) ?_; intro W2 HR2 HM2)
    refine bodyPost_ret (results_blk_tmp rfl _ (w.heap.size + 1) 25 (adrC false z16) rfl rfl (splice_all HR2.out rfl) Tryz.underlying25 rfl HSZ.out) rfl ?_
    refine ⟨by rw [HFA.out, HFB.out]; unfold fndA fndB; rw [HN.out.1, HN.out.2]; rfl, ?_, (HM1.out.mono fun _ f => f.elim).trans HM2.out fun q hq => .inr (by rw [show q = w.heap.size + 1 from hq]; omega)⟩
    exact ((show TabAt w (fun k => f k ∧ k < w.heap.size) tb now vs from ⟨_, _, _, HT.out⟩).keep ((HM1.out.mono (G := fun q => q = w.heap.size + 1) fun _ f => f.elim).trans HM2.out fun q hq => .inl hq) fun k hk e => by have := hk.2; omega).mono fun k hk _ => .inl hk.1
  | some rs =>
    obtain ⟨rv, sv, hi⟩ := HT1.out.ver _ (hasV_mem hv)
    have HI : Hid (VerIn W1' (g v) (vbo v) rs rv sv) := Lib.hid hi
    have HMEM := Lib.hid (hasV_mem hv)
    have HHV := Lib.hid hv
    have hne := eql_ver (vbo v)
    have ca0 := HA1.out.cell (j := 0) (show (adrC x.v6 x.b)[0]? = some (.bool x.v6) from rfl)
    have HVL := Lib.hid hi.idx.lt
    obtain ⟨vb, hvb⟩ : ∃ vb, vb = vbo v := ⟨_, rfl⟩
    have HVBN : Hid (vb ≠ w.heap.size ∧ vb ≠ w.heap.size + 1) := Lib.hid (by
      have h1 := HT.out.ver _ (hasV_mem hv)
      have := h1.lt
      have h2 : vb < w.heap.size := by rw [hvb]; exact this
      exact ⟨by omega, by omega⟩)
    have HVB := Lib.hid hvb
    rw [← hvb] at HI hne HVL
    try rw [← hvb]
    clear hv hi hvb
    go_wp2_with (first | (refine wpList_load_blk rfl _ _ rfl w.heap.size 0 rfl 25 (adrC x.v6 x.b) (adrC x.v6 x.b) _ HA1.out (List.take_of_length_le (Nat.le_refl _)) Tryz.underlying25 rfl HSX.out ?_) | (refine wpList_build2 rfl (.tmp 23) (.tmp 26) rfl x.v6 x.v6 x.b z16 HX.out rfl rfl rfl ?_; intro W2 HB2 HMB))
    obtain ⟨ps, hps⟩ : ∃ ps, ps = W1'.heap.size := ⟨_, rfl⟩
    obtain ⟨pr, hpr⟩ : ∃ pr, pr = w.heap.size + 1 := ⟨_, rfl⟩
    have HR2 := Lib.hid (HR1.out.keep HMB.out fun f => f)
    have HI2 := Lib.hid (HI.out.keep HMB.out fun _ _ f => f)
    have HT2 := Lib.hid (HT1.out.keep HMB.out fun _ _ f => f)
    have HMW := Lib.hid (HM1.out.trans HMB.out fun _ f => f.elim)
    have HPS : Hid (ps ≠ vb) := Lib.hid (by have := HVL.out; omega)
    have HPR : Hid (pr ≠ vb ∧ pr < W2.heap.size ∧ w.heap.size ≤ pr) := Lib.hid ⟨by rw [hpr]; exact HVBN.out.2.symm, by rw [hpr]; exact Nat.lt_of_lt_of_le HR1.out.lt HMB.out.size, by omega⟩
    rw [← hps] at HB2
    rw [← hpr] at HR2
    try rw [← hps]
    try rw [← hpr]
    clear hps hpr HA1 HR1 HM1 HMB HI ca0 HVL HVBN
    go_loopw [29] (fun jv wr => ∃ j : Nat, j ≤ 2 ∧ jv = .int .i64 (j : Int) ∧ ∃ gg, VerIn wr gg vb rs rv sv ∧ (∀ k, gg k → g v k ∨ W2.heap.size ≤ k) ∧ Mod (fun q => q = vb) W2 wr ∧ ∀ i, i < j → placeR (xI x i) rs = none) (fun jv _ => 2 - (intOf jv).toNat)
    case atStart => exact ⟨0, by omega, rfl, g v, HI2.out, fun k hk => .inl hk, Mod.refl _ _, fun i hi => by omega⟩
    case round =>
      obtain ⟨j, hj, rfl, gg, hver, hgg, hm, hall⟩ := hrel
      have HV := Lib.hid hver
      have HGG := Lib.hid hgg
      have HM := Lib.hid hm
      have HALL := Lib.hid hall
      have HRR := Lib.hid (HR2.out.keep hm HPR.out.1)
      clear hver hgg hm hall
      by_cases hlt : j < 2
      · obtain ⟨b', hb'⟩ : ∃ b', b' = bI x j := ⟨_, rfl⟩
        have hbl : b'.length = 16 := by rw [hb']; unfold bI; split; exact HX.out; rfl
        have HBL := Lib.hid hbl
        have hrg : wr.rangeAt ps (j * 17) (adrC x.v6 b') := by
          have h1 : W2.rangeAt ps (j * 17) (((adrC x.v6 x.b ++ adrC x.v6 z16).drop (j * 17)).take 17) := HB2.out.range (j * 17) 17
          have h2 : ((adrC x.v6 x.b ++ adrC x.v6 z16).drop (j * 17)).take 17 = adrC x.v6 b' := by
            rw [hb']
            rcases (show j = 0 ∨ j = 1 by omega) with rfl | rfl
            · rw [Nat.zero_mul, List.drop_zero, List.take_left' (by rw [adrC_len, HX.out])]; rfl
            · rw [Nat.one_mul, List.drop_left' (by rw [adrC_len, HX.out])]; rfl
          rw [h2] at h1
          exact rangeFar HM.out h1 HPS.out
        have HRG := Lib.hid hrg
        have HSB : Hid ((Tryz.prog.info? 25).map (·.size) = some (adrC x.v6 b').length) := Lib.hid (by rw [adrC_len, hbl]; exact adrSz)
        have HFIT : Hid (0 + (adrC x.v6 b').length ≤ (adrC false z16).length) := Lib.hid (by rw [adrC_len, hbl]; decide)
        have HNB := Lib.hid (Blk.new wr 25 (adrC false z16))
        have HXI : Hid (xI x j = ⟨x.vlan, x.v6, b', x.root, []⟩) := Lib.hid (by unfold xI; rw [← hb'])
        have HFR : Hid (0 + (adrC x.v6 b').length ≤ (adrC false z16).length) := HFIT
        clear hb' hbl hrg
        go_wp2_with (first | (refine wpList_load_midG rfl _ _ rfl ps (j * 17) rfl (adrC x.v6 b') _ HRG.out Tryz.underlying25 rfl HSB.out ?_) | (refine wpList_store_blk rfl _ _ _ rfl wr.heap.size 0 25 (adrC false z16) (adrC x.v6 b') rfl rfl HNB.out HFIT.out HSB.out (adrC_one _ _) ?_; intro w3 HB3 HM3; have HBQ : Hid (Blk w3 wr.heap.size 25 (adrC x.v6 b')) := Lib.hid (splice_all HB3.out (by rw [adrC_len, adrC_len, HBL.out]; rfl))) | (refine wpList_load_blk rfl _ _ rfl wr.heap.size 0 rfl 25 (adrC x.v6 b') (adrC x.v6 b') _ HBQ.out (List.take_of_length_le (Nat.le_refl _)) Tryz.underlying25 rfl HSB.out ?_) | (refine wpList_value rfl (.agg (spotC ⟨x.vlan, x.v6, b', x.root, []⟩).toArray) (exec_build_spot rfl ⟨x.vlan, x.v6, b', x.root, []⟩ HBL.out rfl rfl rfl _) ?_))
        have hm3 : Mod (fun _ => False) wr w3 := ((Mod.refl _ _).alloc _).trans HM3.out fun k hk => .inr (by omega)
        have HI3 := Lib.hid (HV.out.keep hm3 fun _ _ f => f)
        have HRR3 := Lib.hid (HRR.out.keep hm3 fun f => f)
        have HM3W := Lib.hid hm3
        refine (find_any vb ⟨x.vlan, x.v6, b', x.root, []⟩ _ HI3.out HBL.out).mono ?_
        rintro e w4 ⟨rfl, hF, hM⟩
        have HPWR : Hid (¬ wr.heap.size = vb) := Lib.hid (by have := HV.out.idx.lt; omega)
        have HF4 := Lib.hid hF
        have HM4 := Lib.hid hM
        have HBQ4 := Lib.hid (HBQ.out.keep hM HPWR.out)
        have HRR4 := Lib.hid (HRR3.out.keep hM HPR.out.1)
        have HTOT : Hid (Mod (fun q => q = vb) W2 w4) := Lib.hid ((HM.out.trans HM3W.out fun _ f => f.elim).trans HM4.out fun q hq => .inl hq)
        clear hF hM hm3 HB3 HM3
        cases hp : placeR (⟨x.vlan, x.v6, b', x.root, []⟩ : TRow) rs with
        | none =>
          have HA2 : Hid (∀ i, i < j + 1 → placeR (xI x i) rs = none) := Lib.hid fun i hi => by
            rcases Nat.lt_or_ge i j with h | h
            · exact HALL.out i h
            · obtain rfl : i = j := by omega
              rw [HXI.out]; exact hp
          clear hp
          go_wp2
          go_roundw
          case rel => exact ⟨j + 1, by omega, by go_num, _, HF4.out, fun k hk => hk.elim (fun hk => HGG.out k hk) fun hk => .inr (Nat.le_trans HM.out.size (Nat.le_trans HM3W.out.size hk)), HTOT.out, HA2.out⟩
          case measure => simp [intOf]; omega
        | some i0 =>
          have HRES : Hid (FA = adrC x.v6 b' ∧ FB = true) := Lib.hid (by
            rw [HFA.out, HFB.out]
            unfold fndA fndB
            rw [nextT_is HHV.out, nextT_is HHV.out]
            rw [← HXI.out] at hp
            rcases (show j = 0 ∨ j = 1 by omega) with hj0 | hj1
            · subst hj0
              have hpx : placeR x rs = some i0 := by rw [← hp]; exact placeR_key x (xI x 0) ⟨rfl, rfl, rfl, rfl⟩ rs
              have hbx : x.b = b' := by have := congrArg TRow.b HXI.out; simpa [xI, bI] using this
              rw [hpx, hbx]
              exact ⟨rfl, rfl⟩
            · subst hj1
              have h0 : placeR x rs = none := by rw [← HALL.out 0 (by omega)]; exact placeR_key x (xI x 0) ⟨rfl, rfl, rfl, rfl⟩ rs
              have hpx : placeR (allT x) rs = some i0 := by rw [← hp]; exact placeR_key (allT x) (xI x 1) ⟨rfl, rfl, rfl, rfl⟩ rs
              have hbx : z16 = b' := by have := congrArg TRow.b HXI.out; simpa [xI, bI] using this
              rw [h0, hpx, ← hbx]
              exact ⟨rfl, rfl⟩)
          clear hp
          go_wp2_with (first | (refine wpList_load_blk rfl _ _ rfl wr.heap.size 0 rfl 25 (adrC x.v6 b') (adrC x.v6 b') _ HBQ4.out (List.take_of_length_le (Nat.le_refl _)) Tryz.underlying25 rfl HSB.out ?_) | (refine wpList_store_blk rfl _ _ _ rfl pr 0 25 (adrC false z16) (adrC x.v6 b') rfl rfl HRR4.out HFR.out HSB.out (adrC_one _ _) ?_; intro w5 HR5 HM5))
          refine bodyPost_ret (results_blk_tmp rfl _ pr 25 (adrC x.v6 b') rfl rfl (splice_all HR5.out (by rw [adrC_len, adrC_len, HBL.out]; rfl)) Tryz.underlying25 rfl HSB.out) rfl ?_
          rw [HRES.out.1, HRES.out.2]
          exact ⟨rfl, fndDone HT2.out HMEM.out HVB.out HF4.out (fun k hk => hk.elim (fun hk => HGG.out k hk) fun hk => .inr (Nat.le_trans HM.out.size (Nat.le_trans HM3W.out.size hk))) HMW.out HTOT.out HM5.out HPR.out⟩
      · obtain rfl : j = 2 := by omega
        have HRES : Hid (FA = adrC false z16 ∧ FB = false) := Lib.hid (by
          rw [HFA.out, HFB.out]
          unfold fndA fndB
          have h0 : placeR x rs = none := by rw [← HALL.out 0 (by omega)]; exact placeR_key x (xI x 0) ⟨rfl, rfl, rfl, rfl⟩ rs
          have h1 : placeR (allT x) rs = none := by rw [← HALL.out 1 (by omega)]; exact placeR_key (allT x) (xI x 1) ⟨rfl, rfl, rfl, rfl⟩ rs
          rw [nextT_is HHV.out, nextT_is HHV.out, h0, h1]
          exact ⟨rfl, rfl⟩)
        go_wp2_with (refine wpList_store_blk rfl _ _ _ rfl pr 0 25 (adrC false z16) (adrC false z16) rfl rfl HRR.out (by decide) HSZ.out (adrC_one _ _) ?_; intro w5 HR5 HM5)
        refine bodyPost_ret (results_blk_tmp rfl _ pr 25 (adrC false z16) rfl rfl (splice_all HR5.out rfl) Tryz.underlying25 rfl HSZ.out) rfl ?_
        rw [HRES.out.1, HRES.out.2]
        exact ⟨rfl, fndDone HT2.out HMEM.out HVB.out HV.out HGG.out HMW.out HM.out HM5.out HPR.out⟩
end Go.Proofs.YtegjamjognpdkaaGreat
namespace Go.Proofs.YtegjamjognpdkaaGreat
open Go.RowKit
set_option linter.unusedVariables false
set_option linter.unusedSimpArgs false
set_option maxRecDepth 100000 in
set_option maxHeartbeats 4000000 in
theorem sameI_true (a b : Value) (l : List Int) (w : World) (ha : Reads w a l.length (ints l)) (hb : Reads w b l.length (ints l)) :
    Calls Tryz.prog 36 #[a, b] w fun e w' => e = .returned (.bool true) ∧ Mod (fun _ => False) w w' := by
  obtain ⟨ad, cp, rfl, hnc, hcm, hg⟩ := ha
  obtain ⟨ad', cp', rfl, hnc', hcm', hg'⟩ := hb
  unfold maxLen at hcm hcm'
  obtain ⟨n, hn⟩ : ∃ n, n = l.length := ⟨_, rfl⟩
  rw [← hn] at hg hg' hnc hnc' ⊢
  have HG := Lib.hid hg
  have HG' := Lib.hid hg'
  have HL := Lib.hid hn
  clear hg hg' hn
  go_enter Tryz.func36, Tryz.ntmps36
  go_wp2_with fail
  go_loopw [5] (fun i wr => ∃ j : Nat, j ≤ n ∧ i = .int .i64 (j : Int) ∧ Mod (fun _ => False) w wr) (fun i _ => n - (intOf i).toNat)
  case atStart => exact ⟨0, Nat.zero_le _, rfl, Mod.refl _ _⟩
  case round =>
    obtain ⟨j, hj, rfl, hm⟩ := hrel
    have HM := Lib.hid hm
    clear hm
    by_cases hlt : j < n
    · obtain ⟨g, o, rfl, hx⟩ := HG.out (by omega)
      obtain ⟨g', o', rfl, hx'⟩ := HG'.out (by omega)
      obtain ⟨x, hxx⟩ : ∃ x, x = l.getD j 0 := ⟨_, rfl⟩
      have hS : wr.drew.cell? ⟨g, o + j, none⟩ = some (.int .i64 x) ∧ wr.drew.cell? ⟨g', o' + j, none⟩ = some (.int .i64 x) := by
        rw [hxx]
        exact ⟨HM.out.drew.cell (fun f => f) (hx j _ (ints_get _ _ (by have := HL.out; omega))), HM.out.drew.cell (fun f => f) (hx' j _ (ints_get _ _ (by have := HL.out; omega)))⟩
      have HSS := Lib.hid hS
      clear hx hx' hxx hS
      go_wp2_with fail
      refine wp_region_plan [] [(0, 0), (1, 0), (2, 0), (3, 1), (4, 0), (5, 0), (6, 0), (7, 1), (8, 0)] (fun w' : World => w'.cell? ⟨g, o + j, none⟩ = some (.int .i64 x) ∧ w'.cell? ⟨g', o' + j, none⟩ = some (.int .i64 x)) (by kernel_rfl) (by kernel_rfl) (fun d _ _ _ _ h => by cases d <;> exact h) ?_
      repeat (first | (refine plan_skip rfl rfl ?_; simp only [List.getElem_toArray, List.getElem_cons_succ, List.getElem_cons_zero, Act.put, List.setIfInBounds_toArray, List.set_cons_zero, List.set_cons_succ]) | (refine plan_pass2 rfl rfl ?_; simp only [List.getElem_toArray, List.getElem_cons_succ, List.getElem_cons_zero, Act.put, List.setIfInBounds_toArray, List.set_cons_zero, List.set_cons_succ]) | (refine plan_pass3 rfl rfl ?_; simp only [List.getElem_toArray, List.getElem_cons_succ, List.getElem_cons_zero, Act.put, List.setIfInBounds_toArray, List.set_cons_zero, List.set_cons_succ]) | (refine plan_take (v := ?_) rfl rfl ?_ ?_; rotate_left; (focus (intro w0; go_simp; try with_reducible rfl)); simp only [List.getElem_toArray, List.getElem_cons_succ, List.getElem_cons_zero, Act.put, List.setIfInBounds_toArray, List.set_cons_zero, List.set_cons_succ]) | (refine plan_held (v := ?_) rfl rfl (HSS.out) ?_ ?_; rotate_left; (focus (intro w0 hSw; (try dsimp only at hSw); go_split_ands; go_simp; try with_reducible rfl)); simp only [List.getElem_toArray, List.getElem_cons_succ, List.getElem_cons_zero, Act.put, List.setIfInBounds_toArray, List.set_cons_zero, List.set_cons_succ])  | (refine plan_skip1 rfl rfl (HSS.out) ?_; simp only [List.getElem_toArray, List.getElem_cons_succ, List.getElem_cons_zero, Act.put, List.setIfInBounds_toArray, List.set_cons_zero, List.set_cons_succ]))
      refine plan_nil ?_
      go_wp2
      go_roundw
      case rel => exact ⟨j + 1, by omega, by go_num, HM.out.drew⟩
      case measure => simp [intOf]; omega
    · obtain rfl : j = n := by omega
      go_wp2
      go_ret
      exact ⟨rfl, HM.out⟩
theorem calls_new1 {P : Program} {fn : FuncId} {args : Array Value} {w : World} {cs : List Value} {t : TypeId} {R : Ending → World → Prop} (h : ∀ W : World, Hid (Blk W w.heap.size t cs) → Hid (Mod (fun _ => False) w W) → Calls P fn args W R) :
    Calls P fn args (w.alloc (.cells cs.toArray t (0, 0))) R :=
  h _ (Lib.hid (Blk.new w t cs)) (Lib.hid ((Mod.refl _ _).alloc _))
def yT (x : TRow) : TRow := ⟨x.vlan, x.v6, z16, x.root, x.next⟩
theorem yT_c {x : TRow} {svx : Value} (hx : x.b.length = 16) {w : World} {g : Nat} {t : TypeId} (h : Blk w g t (splice (x.c svx) 1 (adrC x.v6 z16))) : Blk w g t ((yT x).c svx) := by
  unfold TRow.c yT at *
  rwa [rowC_adr _ _ _ _ _ _ _ hx rfl] at h
theorem yT_adrs (x : TRow) (svx : Value) : (((yT x).c svx).drop 1).take (adrC x.v6 z16).length = adrC x.v6 z16 := rowC_adrs' (yT x) svx rfl
theorem nextT_key (vs : List (Int × List TRow)) (v : Int) (x y : TRow) (h : x.vlan = y.vlan ∧ x.v6 = y.v6 ∧ x.b = y.b ∧ x.root = y.root) : nextT vs v x = nextT vs v y := by
  unfold nextT
  congr 1
  funext rs
  rw [placeR_key x y h rs]
theorem nextT_hv {vs vs' : List (Int × List TRow)} {v : Int} (h : hasV vs v = hasV vs' v) (x : TRow) : nextT vs v x = nextT vs' v x := by unfold nextT; rw [h]
set_option maxRecDepth 100000 in
set_option maxHeartbeats 16000000 in
theorem found_any {w : World} {fT fR : Nat → Prop} {tb xb : Nat} {now nowR : Int} {is : Bool} {lv svx : Value} {vs : List (Int × List TRow)} {es : List VE} (hT : TabAt w fT tb now vs) (hR : RT w fR xb es nowR is lv) (hd : ∀ k, fT k → ¬ fR k ∧ k ≠ xb) (hfr : ∀ k, fR k → k < w.heap.size) (v : Int) (x : TRow) (hx : x.b.length = 16) (h1 : svx.oneCell' = true) (hvv : hasV vs v = hasV (esV es) v) :
    Calls Tryz.prog 18 #[.pointer (some ⟨tb, 0, none⟩), .pointer (some ⟨xb, 0, none⟩), .int .u32 v, .agg (x.c svx).toArray] w fun e w' => e = .returned (.bool true) ∧ TabAt w' (fun k => fT k ∨ w.heap.size ≤ k) tb now vs ∧ RT w' fR xb es nowR is lv ∧ Mod fT w w' := by
  have HX := Lib.hid hx
  have HD := Lib.hid hd
  have HXB := Lib.hid hR.tab.lt
  have HFR := Lib.hid hfr
  have HT0 := Lib.hid (hT.mono (f' := fun k => fT k ∧ k < w.heap.size) fun k hk hl => ⟨hk, hl⟩)
  have HR0 := Lib.hid hR
  have HRZ : Hid ((Tryz.prog.info? 28).map (·.size) = some (x.c svx).length) := Lib.hid (by rw [TRow.c, rowC_len _ _ _ _ _ hx]; exact rowSz)
  have HRY : Hid ((Tryz.prog.info? 28).map (·.size) = some ((yT x).c svx).length) := Lib.hid (by rw [TRow.c, rowC_len _ _ _ _ _ rfl]; exact rowSz)
  have HRF : Hid (0 + (x.c svx).length ≤ (rowC 0 false z16 0 (.slice none 0 0)).length) := Lib.hid (by rw [TRow.c, rowC_len _ _ _ _ _ hx, rowC_len _ _ _ _ _ rfl]; decide)
  have HRL : Hid ((x.c svx).length = (rowC 0 false z16 0 (.slice none 0 0)).length) := Lib.hid (by rw [TRow.c, rowC_len _ _ _ _ _ hx, rowC_len _ _ _ _ _ rfl])
  have HR1 : Hid (∀ u ∈ x.c svx, u.oneCell' = true) := Lib.hid (rowC_one _ _ _ _ _ h1)
  have HAX : Hid ((Tryz.prog.info? 25).map (·.size) = some (adrC x.v6 x.b).length) := Lib.hid (by rw [adrC_len, hx]; exact adrSz)
  have HAZ : Hid ((Tryz.prog.info? 25).map (·.size) = some (adrC x.v6 z16).length) := Lib.hid adrSz
  have HZZ : Hid ((Tryz.prog.info? 25).map (·.size) = some (adrC false z16).length) := Lib.hid adrSz
  have HYF : Hid (1 + (adrC x.v6 z16).length ≤ (x.c svx).length) := Lib.hid (by rw [adrC_len, TRow.c, rowC_len _ _ _ _ _ hx]; decide)
  obtain ⟨B1, hB1⟩ : ∃ B1, (nextT vs v x).isSome = B1 := ⟨_, rfl⟩
  obtain ⟨B2, hB2⟩ : ∃ B2, (nextT vs v (allT x)).isSome = B2 := ⟨_, rfl⟩
  obtain ⟨L, hL⟩ : ∃ L, L = (nextT vs v x).getD [] := ⟨_, rfl⟩
  obtain ⟨FA, hFA⟩ : ∃ FA, FA = fndA vs v x := ⟨_, rfl⟩
  obtain ⟨FB, hFB⟩ : ∃ FB, FB = fndB vs v x := ⟨_, rfl⟩
  have HFAd := Lib.hid hFA
  have HFBd := Lib.hid hFB
  have HFAl : Hid (FA.length = (adrC false z16).length) := Lib.hid (by
    rw [hFA]; unfold fndA
    split
    · rw [adrC_len, hx]; rfl
    · split <;> rfl)
  have HFAf : Hid (0 + FA.length ≤ (adrC false z16).length) := Lib.hid (by rw [HFAl.out]; decide)
  have HFAz : Hid ((Tryz.prog.info? 25).map (·.size) = some FA.length) := Lib.hid (by rw [HFAl.out]; exact adrSz)
  have HFA1 : Hid (∀ u ∈ FA, u.oneCell' = true) := Lib.hid (by
    rw [hFA]; unfold fndA
    split
    · exact adrC_one _ _
    · split <;> exact adrC_one _ _)
  have HB1e : Hid ((nextT (esV es) v x).isSome = B1) := Lib.hid (by rw [← nextT_hv hvv x]; exact hB1)
  have HB2e : Hid ((nextT (esV es) v (yT x)).isSome = B2) := Lib.hid (by rw [← nextT_hv hvv, nextT_key vs v (yT x) (allT x) ⟨rfl, rfl, rfl, rfl⟩]; exact hB2)
  have HLE : Hid ((nextT (esV es) v x).getD [] = L) := Lib.hid (by rw [← nextT_hv hvv x, hL])
  have HLV := Lib.hid hL.symm
  have HBN := Lib.hid (Blk.new w 28 (x.c svx))
  have k0 := HBN.out.cell (j := 0) (rowC_0 ..)
  have k18 := HBN.out.cell (j := 18) (rowC_18 _ _ _ _ _ hx)
  have HB1n := Lib.hid hB1
  have HB2n := Lib.hid hB2
  clear hT hR hd hL hFA hFB hvv hx h1 hfr hB1 hB2
  go_enter Tryz.func18, Tryz.ntmps18
  go_wp2_with (refine wpList_load_blk rfl _ _ rfl w.heap.size 1 rfl 28 (x.c svx) (adrC x.v6 x.b) _ HBN.out (rowC_adrs' x svx HX.out) Tryz.underlying25 rfl HAX.out ?_)
  clear k0 k18
  refine calls_new1 (t := 28) (cs := x.c svx) fun W1 HB1 HM1 => ?_
  have HT1 := Lib.hid (HT0.out.keep HM1.out fun k _ f => f)
  have HRT1 := Lib.hid (HR0.out.keep HM1.out (fun k _ f => f) fun f => f)
  refine (tNext_any HT1.out v x HX.out).mono ?_; rintro e w2 ⟨u, hs, rfl, hsz, hu, ht2, hm2⟩
  rw [HB1n.out]
  rw [HLV.out] at hu
  have HW1 := Lib.hid HM1.out.size
  have HP2 := Lib.hid (HB1.out.keep hm2 fun h => by have := h.2; omega)
  have HR2 := Lib.hid (HRT1.out.keep hm2 (fun k hk h => (HD.out k h.1).1 hk) fun h => (HD.out _ h.1).2 rfl)
  have HU2 := Lib.hid hu
  have HT2 := Lib.hid ht2
  have HM2 := Lib.hid hm2
  have HSZ := Lib.hid hsz
  clear hu ht2 hm2 hsz
  go_wp2_with (refine wpList_load_blk rfl _ _ rfl w.heap.size 0 rfl 28 (x.c svx) (x.c svx) _ HP2.out (List.take_of_length_le (Nat.le_refl _)) Tryz.underlying28 rfl HRZ.out ?_)
  refine (refNext_any HR2.out v x svx HX.out).mono ?_; rintro e w3 ⟨m, rfl, hmr, hm3⟩
  rw [HB1e.out]
  rw [HLE.out] at hmr
  have HP3 := Lib.hid (HP2.out.keep hm3 fun f => f)
  have HR3 := Lib.hid (HR2.out.keep hm3 (fun _ _ f => f) fun f => f)
  have HU3 := Lib.hid (HU2.out.keep hm3 fun _ _ f => f)
  have HT3 := Lib.hid (HT2.out.keep hm3 fun _ _ f => f)
  have HMR3 := Lib.hid hmr
  have HM3 := Lib.hid hm3
  have k0 := HP3.out.cell (j := 0) (rowC_0 ..)
  have k18 := HP3.out.cell (j := 18) (rowC_18 _ _ _ _ _ HX.out)
  clear hmr hm3
  go_wp2_with (refine wpList_load_blk rfl _ _ rfl w.heap.size 1 rfl 28 (x.c svx) (adrC x.v6 x.b) _ HP3.out (rowC_adrs' x svx HX.out) Tryz.underlying25 rfl HAX.out ?_)
  clear k0 k18
  refine (tFind_any HT3.out v x HX.out).mono ?_; rintro e w4 ⟨rfl, ht4, hm4⟩
  rw [← HFAd.out, ← HFBd.out]
  have HP4 := Lib.hid (HP3.out.keep hm4 fun h => by
    have := HB1.out.lt
    rcases h.1 with h | h
    · have := h.2; omega
    · omega)
  have HFF : Hid (∀ k, fR k → ¬ ((fT k ∧ k < w.heap.size ∨ W1.heap.size ≤ k) ∧ k < hs)) := Lib.hid fun k hk h => by
    have := HFR.out k hk
    have := HM1.out.size
    rcases h.1 with h | h
    · exact (HD.out k h.1).1 hk
    · omega
  have HR4 := Lib.hid (HR3.out.keep hm4 (fun k hk h => HFF.out k hk h) fun h => by
    have := HXB.out
    have := HM1.out.size
    rcases h.1 with h | h
    · exact (HD.out _ h.1).2 rfl
    · omega)
  have HU4 := Lib.hid (HU3.out.keep hm4 fun k hk h => by have hk : hs ≤ k := hk; have := h.2; omega)
  have HMR4 := Lib.hid (HMR3.out.keep hm4 fun k hk h => HFF.out k hk h)
  have HEND : Hid (∀ w10, Mod (fun _ => False) w4 w10 → TabAt w10 (fun k => fT k ∨ w.heap.size ≤ k) tb now vs ∧ RT w10 fR xb es nowR is lv ∧ Mod fT w w10) := Lib.hid fun w10 hm => ⟨(ht4.keep hm fun _ _ f => f).mono fun k hk _ => by
      have h1 := HM1.out.size
      have h2 := HM2.out.size
      have h3 := HM3.out.size
      rcases hk with hk | hk
      · rcases hk.1 with hk | hk
        · exact .inl hk.1
        · exact .inr (Nat.le_trans h1 hk)
      · exact .inr (Nat.le_trans h1 (Nat.le_trans h2 (Nat.le_trans h3 hk))), HR4.out.keep hm (fun _ _ f => f) fun f => f,
    ((((HM1.out.mono fun _ f => f.elim).trans HM2.out fun k hk => .inl hk.1).trans HM3.out fun _ f => f.elim).trans hm4 fun k hk => by
      have h1 := HM1.out.size
      rcases hk.1 with hk | hk
      · exact .inl hk.1
      · exact .inr (Nat.le_trans h1 hk)).trans hm fun _ f => f.elim⟩
  clear ht4 hm4
  have hB1 := HB1n.out
  have hB2 := HB2n.out
  cases B1 with
  | true =>
    have HFAe : Hid (FA = adrC x.v6 x.b) := Lib.hid (by rw [HFAd.out]; unfold fndA; rw [hB1] <;> rfl)
    have HFBe : Hid (FB = true) := Lib.hid (by rw [HFBd.out]; unfold fndB; rw [hB1] <;> rfl)
    have HBA : Hid (x.b.length = 16) := HX
    have HVZ : Hid ((Tryz.prog.info? 25).map (·.size) = some (adrC x.v6 x.b).length) := Lib.hid (by rw [adrC_len, HBA.out]; exact adrSz)
    have HF18 : Hid (0 + (adrC x.v6 x.b).length ≤ (adrC false z16).length) := Lib.hid (by rw [adrC_len, HBA.out] <;> decide)
    have HL18 : Hid ((adrC x.v6 x.b).length = (adrC false z16).length) := Lib.hid (by rw [adrC_len, HBA.out] <;> rfl)
    rw [HFBe.out]
    clear hB1 hB2
    go_wp2_with (first | (refine wpList_load_blk rfl _ _ rfl w.heap.size 0 rfl 28 (x.c svx) (x.c svx) _ HP5.out (List.take_of_length_le (Nat.le_refl _)) Tryz.underlying28 rfl HRZ.out ?_) | (refine wpList_load_blk rfl _ _ rfl w5.heap.size 0 rfl 28 ((yT x).c svx) ((yT x).c svx) _ H15b.out (List.take_of_length_le (Nat.le_refl _)) Tryz.underlying28 rfl HRY.out ?_) | (refine wpList_store_blk rfl _ _ _ rfl w4.heap.size 0 25 (adrC false z16) FA rfl rfl (Blk.new w4 _ _) HFAf.out HFAz.out HFA1.out ?_; intro w5 HB13 HM13; have H13 : Hid (Blk w5 w4.heap.size 25 FA) := Lib.hid (splice_all HB13.out HFAl.out); have HM45 : Hid (Mod (fun _ => False) w4 w5) := Lib.hid (((Mod.refl _ _).alloc _).trans HM13.out fun k hk => .inr (by omega)); have HP5 := Lib.hid (HP4.out.keep HM45.out fun f => f)) | (refine wpList_store_blk rfl _ _ _ rfl w5.heap.size 0 28 (rowC 0 false z16 0 (.slice none 0 0)) (x.c svx) rfl rfl (Blk.new w5 _ _) HRF.out HRZ.out HR1.out ?_; intro w6 HB15 HM15; have H15 : Hid (Blk w6 w5.heap.size 28 (x.c svx)) := Lib.hid (splice_all HB15.out HRL.out); have HM56 : Hid (Mod (fun _ => False) w5 w6) := Lib.hid (((Mod.refl _ _).alloc _).trans HM15.out fun k hk => .inr (by omega)); have HP6 := Lib.hid (HP5.out.keep HM56.out fun f => f); have kv6 := HP6.out.cell (j := 1) (show (x.c svx)[1]? = some (.bool x.v6) from rfl)) | (refine wpList_store_blk rfl _ _ _ rfl w5.heap.size 1 28 (x.c svx) (adrC x.v6 z16) rfl rfl H15.out HYF.out HAZ.out (adrC_one _ _) ?_; intro w7 HB15b HM15b; have H15b : Hid (Blk w7 w5.heap.size 28 ((yT x).c svx)) := Lib.hid (yT_c HX.out HB15b.out)))
    have hm57 : Mod (fun q => q = w5.heap.size) w6 w7 := HM15b.out
    have hm47 : Mod (fun _ => False) w4 w7 := (HM45.out.trans HM56.out fun _ f => f.elim).trans hm57 fun k hk => .inr (by have := HM45.out.size; omega)
    have HP7 := Lib.hid (HP6.out.keep hm57 (fun e => by have := HP5.out.lt; have e : w.heap.size = w5.heap.size := e; omega))
    have H137 := Lib.hid ((H13.out.keep HM56.out fun f => f).keep hm57 (fun e => by have := H13.out.lt; have e : w4.heap.size = w5.heap.size := e; omega))
    have HR7 := Lib.hid (HR4.out.keep hm47 (fun _ _ f => f) fun f => f)
    have HM47 := Lib.hid hm47
    refine (refNext_any HR7.out v (yT x) svx rfl).mono ?_; rintro e w8 ⟨m2, rfl, hmr2, hm8⟩
    rw [HB2e.out]
    have HM48 := Lib.hid (HM47.out.trans hm8 fun _ f => f.elim)
    have HP8 := Lib.hid (HP7.out.keep hm8 fun f => f)
    have HY8 := Lib.hid (H15b.out.keep hm8 fun f => f)
    have H138 := Lib.hid (H137.out.keep hm8 fun f => f)
    have HU8 := Lib.hid (HU4.out.keep HM48.out fun _ _ f => f)
    have HMR8 := Lib.hid (HMR4.out.keep HM48.out fun _ _ f => f)
    have HTOT : Hid (∀ w10, Mod (fun _ => False) w8 w10 → TabAt w10 (fun k => fT k ∨ w.heap.size ≤ k) tb now vs ∧ RT w10 fR xb es nowR is lv ∧ Mod fT w w10) := Lib.hid fun w10 hm => HEND.out w10 (HM48.out.trans hm fun _ f => f.elim)
    clear hmr2 hm8 hm57 hm47 HM13 HM15 HM15b HB13 HB15 HB15b kv6
    go_wp2_with (first | (refine wpList_store_blk rfl _ _ _ rfl w8.heap.size 0 25 (adrC false z16) (adrC false z16) rfl rfl (Blk.new w8 _ _) (by decide) HZZ.out (adrC_one _ _) ?_; intro w9z HB18z HM18z; have H18z : Hid (Blk w9z w8.heap.size 25 (adrC false z16)) := Lib.hid (splice_all HB18z.out rfl); have HM8z : Hid (Mod (fun _ => False) w8 w9z) := Lib.hid (((Mod.refl _ _).alloc _).trans HM18z.out fun k hk => .inr (by omega)); have HPz := Lib.hid (HP8.out.keep HM8z.out fun f => f); have HYz := Lib.hid (HY8.out.keep HM8z.out fun f => f)) | (refine wpList_load_blk rfl _ _ rfl w.heap.size 1 rfl 28 (x.c svx) (adrC x.v6 x.b) _ HPz.out (rowC_adrs' x svx HX.out) Tryz.underlying25 rfl HAX.out ?_) | (refine wpList_store_blk rfl _ _ _ rfl w8.heap.size 0 25 (adrC false z16) (adrC x.v6 x.b) rfl rfl H18z.out HF18.out HVZ.out (adrC_one _ _) ?_; intro w9 HB18 HM18; have H18 : Hid (Blk w9 w8.heap.size 25 (adrC x.v6 x.b)) := Lib.hid (splice_all HB18.out HL18.out)))
    have HM89 : Hid (Mod (fun _ => False) w8 w9) := Lib.hid (HM8z.out.trans HM18.out fun k hk => .inr (by omega))
    have HU9 := Lib.hid ((HU8.out.keep HM89.out fun _ _ f => f).reads)
    have HMR9 := Lib.hid ((HMR8.out.keep HM89.out fun _ _ f => f).reads)
    have H13b := Lib.hid (H138.out.keep HM89.out fun f => f)
    have HFIN : Hid (∀ w10, Mod (fun _ => False) _ w10 → TabAt w10 (fun k => fT k ∨ w.heap.size ≤ k) tb now vs ∧ RT w10 fR xb es nowR is lv ∧ Mod fT w w10) := Lib.hid fun w10 hm => HTOT.out w10 (HM89.out.trans hm fun _ f => f.elim)
    refine (sameI_true u m L _ HU9.out HMR9.out).mono ?_; rintro e w10 ⟨rfl, hm10⟩
    have HM10 := Lib.hid hm10
    have H13c := Lib.hid (H13b.out.keep hm10 fun f => f)
    have H18c := Lib.hid (H18.out.keep hm10 fun f => f)
    clear hm10
    go_wp2_with (first | (refine wpList_load_blk rfl _ _ rfl w4.heap.size 0 rfl 25 FA (adrC x.v6 x.b) _ H13c.out (by rw [HFAe.out]; exact List.take_of_length_le (Nat.le_refl _)) Tryz.underlying25 rfl HVZ.out ?_) | (refine wpList_load_blk rfl _ _ rfl w8.heap.size 0 rfl 25 (adrC x.v6 x.b) (adrC x.v6 x.b) _ H18c.out (List.take_of_length_le (Nat.le_refl _)) Tryz.underlying25 rfl HVZ.out ?_) | (refine wpList_valW rfl (.bool true) ((exec_eq_adr rfl x.v6 x.v6 x.b x.b HBA.out HBA.out rfl rfl _).trans (by simp)) ?_))
    go_ret
    exact ⟨rfl, HFIN.out _ HM10.out⟩
  | false =>
    cases B2 with
    | true =>
      have HFAe : Hid (FA = adrC x.v6 z16) := Lib.hid (by rw [HFAd.out]; unfold fndA; rw [hB1, hB2] <;> rfl)
      have HFBe : Hid (FB = true) := Lib.hid (by rw [HFBd.out]; unfold fndB; rw [hB1, hB2] <;> rfl)
      have HBA : Hid (z16.length = 16) := Lib.hid rfl
      have HVZ : Hid ((Tryz.prog.info? 25).map (·.size) = some (adrC x.v6 z16).length) := Lib.hid (by rw [adrC_len, HBA.out]; exact adrSz)
      have HF18 : Hid (0 + (adrC x.v6 z16).length ≤ (adrC false z16).length) := Lib.hid (by rw [adrC_len, HBA.out] <;> decide)
      have HL18 : Hid ((adrC x.v6 z16).length = (adrC false z16).length) := Lib.hid (by rw [adrC_len, HBA.out] <;> rfl)
      rw [HFBe.out]
      clear hB1 hB2
      go_wp2_with (first | (refine wpList_load_blk rfl _ _ rfl w.heap.size 0 rfl 28 (x.c svx) (x.c svx) _ HP5.out (List.take_of_length_le (Nat.le_refl _)) Tryz.underlying28 rfl HRZ.out ?_) | (refine wpList_load_blk rfl _ _ rfl w5.heap.size 0 rfl 28 ((yT x).c svx) ((yT x).c svx) _ H15b.out (List.take_of_length_le (Nat.le_refl _)) Tryz.underlying28 rfl HRY.out ?_) | (refine wpList_store_blk rfl _ _ _ rfl w4.heap.size 0 25 (adrC false z16) FA rfl rfl (Blk.new w4 _ _) HFAf.out HFAz.out HFA1.out ?_; intro w5 HB13 HM13; have H13 : Hid (Blk w5 w4.heap.size 25 FA) := Lib.hid (splice_all HB13.out HFAl.out); have HM45 : Hid (Mod (fun _ => False) w4 w5) := Lib.hid (((Mod.refl _ _).alloc _).trans HM13.out fun k hk => .inr (by omega)); have HP5 := Lib.hid (HP4.out.keep HM45.out fun f => f)) | (refine wpList_store_blk rfl _ _ _ rfl w5.heap.size 0 28 (rowC 0 false z16 0 (.slice none 0 0)) (x.c svx) rfl rfl (Blk.new w5 _ _) HRF.out HRZ.out HR1.out ?_; intro w6 HB15 HM15; have H15 : Hid (Blk w6 w5.heap.size 28 (x.c svx)) := Lib.hid (splice_all HB15.out HRL.out); have HM56 : Hid (Mod (fun _ => False) w5 w6) := Lib.hid (((Mod.refl _ _).alloc _).trans HM15.out fun k hk => .inr (by omega)); have HP6 := Lib.hid (HP5.out.keep HM56.out fun f => f); have kv6 := HP6.out.cell (j := 1) (show (x.c svx)[1]? = some (.bool x.v6) from rfl)) | (refine wpList_store_blk rfl _ _ _ rfl w5.heap.size 1 28 (x.c svx) (adrC x.v6 z16) rfl rfl H15.out HYF.out HAZ.out (adrC_one _ _) ?_; intro w7 HB15b HM15b; have H15b : Hid (Blk w7 w5.heap.size 28 ((yT x).c svx)) := Lib.hid (yT_c HX.out HB15b.out)))
      have hm57 : Mod (fun q => q = w5.heap.size) w6 w7 := HM15b.out
      have hm47 : Mod (fun _ => False) w4 w7 := (HM45.out.trans HM56.out fun _ f => f.elim).trans hm57 fun k hk => .inr (by have := HM45.out.size; omega)
      have HP7 := Lib.hid (HP6.out.keep hm57 (fun e => by have := HP5.out.lt; have e : w.heap.size = w5.heap.size := e; omega))
      have H137 := Lib.hid ((H13.out.keep HM56.out fun f => f).keep hm57 (fun e => by have := H13.out.lt; have e : w4.heap.size = w5.heap.size := e; omega))
      have HR7 := Lib.hid (HR4.out.keep hm47 (fun _ _ f => f) fun f => f)
      have HM47 := Lib.hid hm47
      refine (refNext_any HR7.out v (yT x) svx rfl).mono ?_; rintro e w8 ⟨m2, rfl, hmr2, hm8⟩
      rw [HB2e.out]
      have HM48 := Lib.hid (HM47.out.trans hm8 fun _ f => f.elim)
      have HP8 := Lib.hid (HP7.out.keep hm8 fun f => f)
      have HY8 := Lib.hid (H15b.out.keep hm8 fun f => f)
      have H138 := Lib.hid (H137.out.keep hm8 fun f => f)
      have HU8 := Lib.hid (HU4.out.keep HM48.out fun _ _ f => f)
      have HMR8 := Lib.hid (HMR4.out.keep HM48.out fun _ _ f => f)
      have HTOT : Hid (∀ w10, Mod (fun _ => False) w8 w10 → TabAt w10 (fun k => fT k ∨ w.heap.size ≤ k) tb now vs ∧ RT w10 fR xb es nowR is lv ∧ Mod fT w w10) := Lib.hid fun w10 hm => HEND.out w10 (HM48.out.trans hm fun _ f => f.elim)
      clear hmr2 hm8 hm57 hm47 HM13 HM15 HM15b HB13 HB15 HB15b kv6
      go_wp2_with (first | (refine wpList_store_blk rfl _ _ _ rfl w8.heap.size 0 25 (adrC false z16) (adrC false z16) rfl rfl (Blk.new w8 _ _) (by decide) HZZ.out (adrC_one _ _) ?_; intro w9z HB18z HM18z; have H18z : Hid (Blk w9z w8.heap.size 25 (adrC false z16)) := Lib.hid (splice_all HB18z.out rfl); have HM8z : Hid (Mod (fun _ => False) w8 w9z) := Lib.hid (((Mod.refl _ _).alloc _).trans HM18z.out fun k hk => .inr (by omega)); have HPz := Lib.hid (HP8.out.keep HM8z.out fun f => f); have HYz := Lib.hid (HY8.out.keep HM8z.out fun f => f)) | (refine wpList_load_blk rfl _ _ rfl w5.heap.size 1 rfl 28 ((yT x).c svx) (adrC x.v6 z16) _ HYz.out (yT_adrs x svx) Tryz.underlying25 rfl HAZ.out ?_) | (refine wpList_store_blk rfl _ _ _ rfl w8.heap.size 0 25 (adrC false z16) (adrC x.v6 z16) rfl rfl H18z.out HF18.out HVZ.out (adrC_one _ _) ?_; intro w9 HB18 HM18; have H18 : Hid (Blk w9 w8.heap.size 25 (adrC x.v6 z16)) := Lib.hid (splice_all HB18.out HL18.out)))
      have HM89 : Hid (Mod (fun _ => False) w8 w9) := Lib.hid (HM8z.out.trans HM18.out fun k hk => .inr (by omega))
      have HU9 := Lib.hid ((HU8.out.keep HM89.out fun _ _ f => f).reads)
      have HMR9 := Lib.hid ((HMR8.out.keep HM89.out fun _ _ f => f).reads)
      have H13b := Lib.hid (H138.out.keep HM89.out fun f => f)
      have HFIN : Hid (∀ w10, Mod (fun _ => False) _ w10 → TabAt w10 (fun k => fT k ∨ w.heap.size ≤ k) tb now vs ∧ RT w10 fR xb es nowR is lv ∧ Mod fT w w10) := Lib.hid fun w10 hm => HTOT.out w10 (HM89.out.trans hm fun _ f => f.elim)
      refine (sameI_true u m L _ HU9.out HMR9.out).mono ?_; rintro e w10 ⟨rfl, hm10⟩
      have HM10 := Lib.hid hm10
      have H13c := Lib.hid (H13b.out.keep hm10 fun f => f)
      have H18c := Lib.hid (H18.out.keep hm10 fun f => f)
      clear hm10
      go_wp2_with (first | (refine wpList_load_blk rfl _ _ rfl w4.heap.size 0 rfl 25 FA (adrC x.v6 z16) _ H13c.out (by rw [HFAe.out]; exact List.take_of_length_le (Nat.le_refl _)) Tryz.underlying25 rfl HVZ.out ?_) | (refine wpList_load_blk rfl _ _ rfl w8.heap.size 0 rfl 25 (adrC x.v6 z16) (adrC x.v6 z16) _ H18c.out (List.take_of_length_le (Nat.le_refl _)) Tryz.underlying25 rfl HVZ.out ?_) | (refine wpList_valW rfl (.bool true) ((exec_eq_adr rfl x.v6 x.v6 z16 z16 HBA.out HBA.out rfl rfl _).trans (by simp)) ?_))
      go_ret
      exact ⟨rfl, HFIN.out _ HM10.out⟩
    | false =>
      have HFAe : Hid (FA = adrC false z16) := Lib.hid (by rw [HFAd.out]; unfold fndA; rw [hB1, hB2] <;> rfl)
      have HFBe : Hid (FB = false) := Lib.hid (by rw [HFBd.out]; unfold fndB; rw [hB1, hB2] <;> rfl)
      have HBA : Hid (z16.length = 16) := Lib.hid rfl
      have HVZ : Hid ((Tryz.prog.info? 25).map (·.size) = some (adrC false z16).length) := Lib.hid (by rw [adrC_len, HBA.out]; exact adrSz)
      have HF18 : Hid (0 + (adrC false z16).length ≤ (adrC false z16).length) := Lib.hid (by rw [adrC_len, HBA.out] <;> decide)
      have HL18 : Hid ((adrC false z16).length = (adrC false z16).length) := Lib.hid (by rw [adrC_len, HBA.out] <;> rfl)
      rw [HFBe.out]
      clear hB1 hB2
      go_wp2_with (first | (refine wpList_load_blk rfl _ _ rfl w.heap.size 0 rfl 28 (x.c svx) (x.c svx) _ HP5.out (List.take_of_length_le (Nat.le_refl _)) Tryz.underlying28 rfl HRZ.out ?_) | (refine wpList_load_blk rfl _ _ rfl w5.heap.size 0 rfl 28 ((yT x).c svx) ((yT x).c svx) _ H15b.out (List.take_of_length_le (Nat.le_refl _)) Tryz.underlying28 rfl HRY.out ?_) | (refine wpList_store_blk rfl _ _ _ rfl w4.heap.size 0 25 (adrC false z16) FA rfl rfl (Blk.new w4 _ _) HFAf.out HFAz.out HFA1.out ?_; intro w5 HB13 HM13; have H13 : Hid (Blk w5 w4.heap.size 25 FA) := Lib.hid (splice_all HB13.out HFAl.out); have HM45 : Hid (Mod (fun _ => False) w4 w5) := Lib.hid (((Mod.refl _ _).alloc _).trans HM13.out fun k hk => .inr (by omega)); have HP5 := Lib.hid (HP4.out.keep HM45.out fun f => f)) | (refine wpList_store_blk rfl _ _ _ rfl w5.heap.size 0 28 (rowC 0 false z16 0 (.slice none 0 0)) (x.c svx) rfl rfl (Blk.new w5 _ _) HRF.out HRZ.out HR1.out ?_; intro w6 HB15 HM15; have H15 : Hid (Blk w6 w5.heap.size 28 (x.c svx)) := Lib.hid (splice_all HB15.out HRL.out); have HM56 : Hid (Mod (fun _ => False) w5 w6) := Lib.hid (((Mod.refl _ _).alloc _).trans HM15.out fun k hk => .inr (by omega)); have HP6 := Lib.hid (HP5.out.keep HM56.out fun f => f); have kv6 := HP6.out.cell (j := 1) (show (x.c svx)[1]? = some (.bool x.v6) from rfl)) | (refine wpList_store_blk rfl _ _ _ rfl w5.heap.size 1 28 (x.c svx) (adrC x.v6 z16) rfl rfl H15.out HYF.out HAZ.out (adrC_one _ _) ?_; intro w7 HB15b HM15b; have H15b : Hid (Blk w7 w5.heap.size 28 ((yT x).c svx)) := Lib.hid (yT_c HX.out HB15b.out)))
      have hm57 : Mod (fun q => q = w5.heap.size) w6 w7 := HM15b.out
      have hm47 : Mod (fun _ => False) w4 w7 := (HM45.out.trans HM56.out fun _ f => f.elim).trans hm57 fun k hk => .inr (by have := HM45.out.size; omega)
      have HP7 := Lib.hid (HP6.out.keep hm57 (fun e => by have := HP5.out.lt; have e : w.heap.size = w5.heap.size := e; omega))
      have H137 := Lib.hid ((H13.out.keep HM56.out fun f => f).keep hm57 (fun e => by have := H13.out.lt; have e : w4.heap.size = w5.heap.size := e; omega))
      have HR7 := Lib.hid (HR4.out.keep hm47 (fun _ _ f => f) fun f => f)
      have HM47 := Lib.hid hm47
      refine (refNext_any HR7.out v (yT x) svx rfl).mono ?_; rintro e w8 ⟨m2, rfl, hmr2, hm8⟩
      rw [HB2e.out]
      have HM48 := Lib.hid (HM47.out.trans hm8 fun _ f => f.elim)
      have HP8 := Lib.hid (HP7.out.keep hm8 fun f => f)
      have HY8 := Lib.hid (H15b.out.keep hm8 fun f => f)
      have H138 := Lib.hid (H137.out.keep hm8 fun f => f)
      have HU8 := Lib.hid (HU4.out.keep HM48.out fun _ _ f => f)
      have HMR8 := Lib.hid (HMR4.out.keep HM48.out fun _ _ f => f)
      have HTOT : Hid (∀ w10, Mod (fun _ => False) w8 w10 → TabAt w10 (fun k => fT k ∨ w.heap.size ≤ k) tb now vs ∧ RT w10 fR xb es nowR is lv ∧ Mod fT w w10) := Lib.hid fun w10 hm => HEND.out w10 (HM48.out.trans hm fun _ f => f.elim)
      clear hmr2 hm8 hm57 hm47 HM13 HM15 HM15b HB13 HB15 HB15b kv6
      go_wp2_with (first | (refine wpList_store_blk rfl _ _ _ rfl w8.heap.size 0 25 (adrC false z16) (adrC false z16) rfl rfl (Blk.new w8 _ _) (by decide) HZZ.out (adrC_one _ _) ?_; intro w9z HB18z HM18z; have H18z : Hid (Blk w9z w8.heap.size 25 (adrC false z16)) := Lib.hid (splice_all HB18z.out rfl); have HM8z : Hid (Mod (fun _ => False) w8 w9z) := Lib.hid (((Mod.refl _ _).alloc _).trans HM18z.out fun k hk => .inr (by omega)); have HPz := Lib.hid (HP8.out.keep HM8z.out fun f => f); have HYz := Lib.hid (HY8.out.keep HM8z.out fun f => f)))
      have H18 := H18z
      have HM89 := HM8z
      have HU9 := Lib.hid ((HU8.out.keep HM89.out fun _ _ f => f).reads)
      have HMR9 := Lib.hid ((HMR8.out.keep HM89.out fun _ _ f => f).reads)
      have H13b := Lib.hid (H138.out.keep HM89.out fun f => f)
      have HFIN : Hid (∀ w10, Mod (fun _ => False) _ w10 → TabAt w10 (fun k => fT k ∨ w.heap.size ≤ k) tb now vs ∧ RT w10 fR xb es nowR is lv ∧ Mod fT w w10) := Lib.hid fun w10 hm => HTOT.out w10 (HM89.out.trans hm fun _ f => f.elim)
      refine (sameI_true u m L _ HU9.out HMR9.out).mono ?_; rintro e w10 ⟨rfl, hm10⟩
      have HM10 := Lib.hid hm10
      have H13c := Lib.hid (H13b.out.keep hm10 fun f => f)
      have H18c := Lib.hid (H18.out.keep hm10 fun f => f)
      clear hm10
      go_wp2_with (first | (refine wpList_load_blk rfl _ _ rfl w4.heap.size 0 rfl 25 FA (adrC false z16) _ H13c.out (by rw [HFAe.out]; exact List.take_of_length_le (Nat.le_refl _)) Tryz.underlying25 rfl HVZ.out ?_) | (refine wpList_load_blk rfl _ _ rfl w8.heap.size 0 rfl 25 (adrC false z16) (adrC false z16) _ H18c.out (List.take_of_length_le (Nat.le_refl _)) Tryz.underlying25 rfl HVZ.out ?_) | (refine wpList_valW rfl (.bool true) ((exec_eq_adr rfl false false z16 z16 HBA.out HBA.out rfl rfl _).trans (by simp)) ?_))
      go_ret
      exact ⟨rfl, HFIN.out _ HM10.out⟩
end Go.Proofs.YtegjamjognpdkaaGreat
