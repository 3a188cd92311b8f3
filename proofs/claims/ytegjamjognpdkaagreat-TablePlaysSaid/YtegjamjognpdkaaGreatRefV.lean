/- The reference's versions: Retire: contract. -/
import Derived.Test.YtegjamjognpdkaaGreatTabS
import Derived.Test.YtegjamjognpdkaaGreatRowG
import Derived.Test.YtegjamjognpdkaaGreatSerial
import Derived.Test.YtegjamjognpdkaaGreatApR
import Derived.Test.YtegjamjognpdkaaGreatBldS
import Derived.Test.YtegjamjognpdkaaGreatOwnA
namespace Go.Proofs.YtegjamjognpdkaaGreat
open Go.RowKit
set_option linter.unusedVariables false
set_option linter.unusedSimpArgs false
/-- a version: its number, its rows, the slice that holds them -/
structure VE where
  n : Int
  rs : List TRow
  rv : Value
def VE.c (e : VE) : List Value := [.int .u32 e.n, e.rv]
def cellsV : List VE → List Value
  | [] => []
  | e :: es => .int .u32 e.n :: e.rv :: cellsV es
theorem cellsV_len : ∀ es : List VE, (cellsV es).length = es.length * 2
  | [] => rfl
  | e :: es => by simp [cellsV, cellsV_len es]; omega
theorem cellsV_append : ∀ a b : List VE, cellsV (a ++ b) = cellsV a ++ cellsV b
  | [], _ => rfl
  | e :: a, b => by simp [cellsV, cellsV_append a b]
theorem cellsV_get : ∀ (es : List VE) (j : Nat) (e : VE), es[j]? = some e → (cellsV es)[j * 2]? = some (.int .u32 e.n) ∧ (cellsV es)[j * 2 + 1]? = some e.rv
  | [], _, _, h => by simp at h
  | x :: es, 0, e, h => by
    simp at h
    subst h
    exact ⟨rfl, rfl⟩
  | x :: es, j + 1, e, h => by
    have := cellsV_get es j e (by simpa using h)
    rw [show (j + 1) * 2 = j * 2 + 1 + 1 by omega]
    exact this
structure RT (w : World) (f : Nat → Prop) (xb : Nat) (es : List VE) (now : Int) (is : Bool) (lv : Value) : Prop where
  tab : Blk w xb 35 [lv, .int .u32 now, .bool is]
  row : Row w f 52 2 lv es.length (cellsV es)
  rows : ∀ e ∈ es, ∃ sv, RowsOwn w f e.rv e.rs sv
  far : ¬ f xb
theorem RT.keep {w w' : World} {F f : Nat → Prop} {xb : Nat} {es : List VE} {now : Int} {is : Bool} {lv : Value} (h : RT w f xb es now is lv) (hm : Mod F w w') (hd : ∀ k, f k → ¬ F k) (hx : ¬ F xb) : RT w' f xb es now is lv :=
  ⟨h.tab.keep hm hx, h.row.keep hm hd, fun e he => (h.rows e he).imp fun sv hs => hs.keep hm hd, h.far⟩
theorem RT.mono {w : World} {f f' : Nat → Prop} {xb : Nat} {es : List VE} {now : Int} {is : Bool} {lv : Value} (h : RT w f xb es now is lv) (hf : ∀ k, f k → k < w.heap.size → f' k) (hx : ¬ f' xb) : RT w f' xb es now is lv :=
  ⟨h.tab, ⟨h.row.1, fun g hg => hf g (h.row.2 g hg) (h.row.lt g hg)⟩, fun e he => (h.rows e he).imp fun sv hs => hs.under.mono fun k hk => hf k hk.1 hk.2, hx⟩
/-- the place of a version -/
def idxV : List VE → Int → Option Nat
  | [], _ => none
  | e :: es, v => if e.n = v then some 0 else (idxV es v).map (· + 1)
def findI (es : List VE) (v : Int) : Int := match idxV es v with | some i => (i : Int) | none => -1
theorem idxV_at : ∀ (es : List VE) (v : Int) (j : Nat) (e : VE), (∀ (i : Nat) (x : VE), i < j → es[i]? = some x → x.n ≠ v) → es[j]? = some e → e.n = v → idxV es v = some j
  | [], _, _, _, _, h, _ => by simp at h
  | x :: es, v, 0, e, _, h, he => by
    simp at h
    subst h
    simp [idxV, he]
  | x :: es, v, j + 1, e, hb, h, he => by
    have hx : ¬ x.n = v := hb 0 x (by omega) rfl
    have := idxV_at es v j e (fun i y hi hy => hb (i + 1) y (by omega) (by simpa using hy)) (by simpa using h) he
    simp [idxV, hx, this]
theorem idxV_none : ∀ (es : List VE) (v : Int), (∀ (i : Nat) (x : VE), es[i]? = some x → x.n ≠ v) → idxV es v = none
  | [], _, _ => rfl
  | x :: es, v, hb => by
    have hx : ¬ x.n = v := hb 0 x rfl
    have := idxV_none es v (fun i y hy => hb (i + 1) y (by simpa using hy))
    simp [idxV, hx, this]
theorem idxV_some : ∀ {es : List VE} {v : Int} {i : Nat}, idxV es v = some i → ∃ e, es[i]? = some e ∧ e.n = v
  | [], _, _, h => by cases h
  | x :: es, v, i, h => by
    unfold idxV at h
    split at h
    · cases h; exact ⟨x, rfl, by assumption⟩
    · rw [Option.map_eq_some_iff] at h
      obtain ⟨k, hk, rfl⟩ := h
      obtain ⟨e, he, hn⟩ := idxV_some hk
      exact ⟨e, by simpa using he, hn⟩
set_option maxRecDepth 100000 in
set_option maxHeartbeats 4000000 in
theorem refFind_any {w : World} {f : Nat → Prop} {xb : Nat} {es : List VE} {now : Int} {is : Bool} {lv : Value} (h : RT w f xb es now is lv) (v : Int) :
    Calls Tryz.prog 15 #[.pointer (some ⟨xb, 0, none⟩), .int .u32 v] w fun e w' => e = .returned (.int .i64 (findI es v)) ∧ w' = w := by
  obtain ⟨ad, cp, rfl, hnc, hcm, hg⟩ := h.row.form
  unfold maxLen at hcm
  obtain ⟨n, hn⟩ : ∃ n, n = es.length := ⟨_, rfl⟩
  have c0 := h.tab.cell (j := 0) rfl
  rw [← hn] at c0 hnc hg
  have HG := Lib.hid hg
  have HL := Lib.hid hn
  clear h hg hn
  go_enter Tryz.func15, Tryz.ntmps15
  go_wp2_with fail
  go_loopw [5] (fun i wr => ∃ j : Nat, j ≤ n ∧ i = .int .i64 (j : Int) ∧ wr = w ∧ ∀ i x, i < j → es[i]? = some x → x.n ≠ v) (fun i _ => n - (intOf i).toNat)
  case atStart => exact ⟨0, Nat.zero_le _, rfl, rfl, fun i x hi => by omega⟩
  case round =>
    obtain ⟨j, hj, rfl, rfl, hall⟩ := hrel
    have HA := Lib.hid hall
    clear hall
    by_cases hlt : j < n
    · obtain ⟨g, rfl, _, _, hc⟩ := HG.out (by omega)
      obtain ⟨x, hx⟩ : ∃ x, es[j]? = some x := ⟨_, List.getElem?_eq_getElem (by have := HL.out; omega)⟩
      have cx := hc _ _ (cellsV_get es j x hx).1
      have HX := Lib.hid hx
      clear hc hx
      by_cases hv : x.n = v
      · have hq : (x.n == v) = true := by simp [hv]
        have hq2 : decide (x.n = v) = true := decide_eq_true hv
        have HE : Hid (findI es v = (j : Int)) := Lib.hid (by unfold findI; rw [idxV_at es v j x HA.out HX.out hv])
        go_wp2
        go_ret
        exact ⟨by rw [HE.out]; rfl, rfl⟩
      · have hq : (x.n == v) = false := by simp [hv]
        have hq2 : decide (x.n = v) = false := decide_eq_false hv
        have HA2 : Hid (∀ i y, i < j + 1 → es[i]? = some y → y.n ≠ v) := Lib.hid fun i y hi hy => by
          rcases Nat.lt_or_ge i j with h | h
          · exact HA.out i y h hy
          · obtain rfl : i = j := by omega
            rw [HX.out] at hy
            cases hy
            exact hv
        clear hv
        go_wp2
        go_roundw
        case rel => exact ⟨j + 1, by omega, by go_num, by first | rfl | trivial, HA2.out⟩
        case measure => simp [intOf]; omega
    · obtain rfl : j = n := by omega
      have HE : Hid (findI es v = -1) := Lib.hid (by
        unfold findI
        rw [idxV_none es v fun i x hx => HA.out i x (by have := (List.getElem?_eq_some_iff.1 hx).1; have := HL.out; omega) hx])
      go_wp2
      go_ret
      exact ⟨by rw [HE.out]; rfl, rfl⟩
end Go.Proofs.YtegjamjognpdkaaGreat
namespace Go.Proofs.YtegjamjognpdkaaGreat
open Go.RowKit
set_option linter.unusedVariables false
set_option linter.unusedSimpArgs false
def rcomC (es : List VE) (now : Int) (is : Bool) (v : Int) : Int :=
  if findI es v < 0 then 8 else if is && (decide (v ≠ now) && decide (Sr.gap now v ≤ 0)) then 11 else 0
def rcomN (es : List VE) (now : Int) (is : Bool) (v : Int) : Int := if rcomC es now is v = 0 then v else now
def rcomI (es : List VE) (now : Int) (is : Bool) (v : Int) : Bool := if rcomC es now is v = 0 then true else is
set_option maxRecDepth 100000 in
set_option maxHeartbeats 4000000 in
theorem refCommit_any {w : World} {f : Nat → Prop} {xb : Nat} {es : List VE} {now : Int} {is : Bool} {lv : Value} (h : RT w f xb es now is lv) (v : Int) (hn : 0 ≤ now ∧ now < 4294967296) (hv : 0 ≤ v ∧ v < 4294967296) :
    Calls Tryz.prog 9 #[.pointer (some ⟨xb, 0, none⟩), .int .u32 v] w fun e w' => e = .returned (.int .i64 (rcomC es now is v)) ∧ RT w' f xb es (rcomN es now is v) (rcomI es now is v) lv ∧ Mod (fun q => q = xb) w w' := by
  have HT := Lib.hid h
  have HF := Lib.hid (refFind_any h v)
  have c1 := h.tab.cell (j := 1) rfl
  have c2 := h.tab.cell (j := 2) rfl
  have f1 := h.tab.free 1
  have f2 := h.tab.free 2
  have no : ∀ (c : Int), rcomC es now is v = c → c ≠ 0 → Ending.returned (.int .i64 c) = Ending.returned (.int .i64 (rcomC es now is v)) ∧ RT w f xb es (rcomN es now is v) (rcomI es now is v) lv ∧ Mod (fun q => q = xb) w w := by
    intro c hc hc0
    unfold rcomN rcomI
    rw [hc, if_neg hc0, if_neg hc0]
    exact ⟨rfl, h, Mod.refl _ _⟩
  have hm : Mod (fun q => q = xb) w ((w.setCell ⟨xb, 1, none⟩ (.int .u32 v)).setCell ⟨xb, 2, none⟩ (.bool true)) := ((Mod.refl (fun q => q = xb) w).setCell (p := ⟨xb, 1, none⟩) (.inl rfl) _).setCell (p := ⟨xb, 2, none⟩) (.inl rfl) _
  have yes : rcomC es now is v = 0 → Ending.returned (.int .i64 0) = Ending.returned (.int .i64 (rcomC es now is v)) ∧ RT ((w.setCell ⟨xb, 1, none⟩ (.int .u32 v)).setCell ⟨xb, 2, none⟩ (.bool true)) f xb es (rcomN es now is v) (rcomI es now is v) lv ∧ Mod (fun q => q = xb) w ((w.setCell ⟨xb, 1, none⟩ (.int .u32 v)).setCell ⟨xb, 2, none⟩ (.bool true)) := by
    intro hc
    unfold rcomN rcomI
    rw [hc, if_pos rfl, if_pos rfl]
    exact ⟨rfl, ⟨(h.tab.set 1 (.int .u32 v)).set 2 (.bool true), h.row.keep hm (fun k hk e => h.far (by rw [← show k = xb from e]; exact hk)), fun e he => (h.rows e he).imp fun sv hs => hs.keep hm (fun k hk e => h.far (by rw [← show k = xb from e]; exact hk)), h.far⟩, hm⟩
  have NO := Lib.hid no
  have YES := Lib.hid yes
  obtain ⟨hn0, hn1⟩ := hn
  obtain ⟨hv0, hv1⟩ := hv
  clear no yes hm h
  obtain ⟨c, hc⟩ : ∃ c, c = findI es v := ⟨_, rfl⟩
  rw [← hc] at HF
  by_cases h0 : c < 0
  · have hd : decide (c < 0) = true := decide_eq_true h0
    have HR : Hid (rcomC es now is v = 8) := Lib.hid (by unfold rcomC; rw [← hc, if_pos h0])
    clear h0 hc
    go_enter Tryz.func9, Tryz.ntmps9
    go_wp2_with (go_at_call 15; refine HF.out.mono ?_; rintro e w' ⟨rfl, rfl⟩)
    go_ret
    exact NO.out _ HR.out (by decide)
  · have hd : decide (c < 0) = false := decide_eq_false h0
    cases is with
    | false =>
      have HR : Hid (rcomC es now false v = 0) := Lib.hid (by unfold rcomC; rw [← hc, if_neg h0]; rfl)
      clear h0 hc
      go_enter Tryz.func9, Tryz.ntmps9
      go_wp2_with (go_at_call 15; refine HF.out.mono ?_; rintro e w' ⟨rfl, rfl⟩)
      go_ret
      exact YES.out HR.out
    | true =>
      by_cases hvn : v = now
      · have hq : (v != now) = false := by simp [hvn]
        have HR : Hid (rcomC es now true v = 0) := Lib.hid (by unfold rcomC; rw [← hc, if_neg h0, decide_eq_false (fun e => e hvn)]; rfl)
        clear h0 hc hvn
        go_enter Tryz.func9, Tryz.ntmps9
        go_wp2_with (go_at_call 15; refine HF.out.mono ?_; rintro e w' ⟨rfl, rfl⟩)
        go_ret
        exact YES.out HR.out
      · have hq : (v != now) = true := by simp [hvn]
        by_cases hg : Sr.gap now v ≤ 0
        · have hgd : decide (Sr.gap now v ≤ 0) = true := decide_eq_true hg
          have HR : Hid (rcomC es now true v = 11) := Lib.hid (by unfold rcomC; rw [← hc, if_neg h0, decide_eq_true hvn, hgd]; rfl)
          clear h0 hc hvn hg
          go_enter Tryz.func9, Tryz.ntmps9
          go_wp2_with (first | (go_at_call 15; refine HF.out.mono ?_; rintro e w' ⟨rfl, rfl⟩) | (go_at_call 24; refine (refGap_any _ _ hn0 hn1 hv0 hv1 _).mono ?_; rintro e w' ⟨rfl, rfl⟩))
          go_ret
          exact NO.out _ HR.out (by decide)
        · have hgd : decide (Sr.gap now v ≤ 0) = false := decide_eq_false hg
          have HR : Hid (rcomC es now true v = 0) := Lib.hid (by unfold rcomC; rw [← hc, if_neg h0, decide_eq_true hvn, hgd]; rfl)
          clear h0 hc hvn hg
          go_enter Tryz.func9, Tryz.ntmps9
          go_wp2_with (first | (go_at_call 15; refine HF.out.mono ?_; rintro e w' ⟨rfl, rfl⟩) | (go_at_call 24; refine (refGap_any _ _ hn0 hn1 hv0 hv1 _).mono ?_; rintro e w' ⟨rfl, rfl⟩))
          go_ret
          exact YES.out HR.out
end Go.Proofs.YtegjamjognpdkaaGreat
namespace Go.Proofs.YtegjamjognpdkaaGreat
open Go.RowKit
set_option linter.unusedVariables false
set_option linter.unusedSimpArgs false
theorem Tryz.elV : Elem Tryz.prog 33 52 (.agg [Value.int .u32 0, .slice none 0 0].toArray) 2 32 := .mk' Tryz.underlying33 (by kernel_rfl) rfl
theorem vSz : (Tryz.prog.info? 52).map (·.size) = some 2 := by kernel_rfl
def keepV (now : Int) (is : Bool) (v : Int) (x : Int) : Bool := decide (Sr.gap x v ≤ 0) || (is && decide (x = now))
/-- the loop, j rounds behind -/
structure RetJ (es : List VE) (now : Int) (is : Bool) (v : Int) (w wr : World) (o : Value) (j k : Nat) : Prop where
  row : Row wr (fun q => w.heap.size ≤ q) 52 2 o k (cellsV ((es.take j).filter fun e => keepV now is v e.n))
  mod : Mod (fun _ => False) w wr
theorem RetJ.len {es : List VE} {now v : Int} {is : Bool} {w wr : World} {o : Value} {j k : Nat} (h : RetJ es now is v w wr o j k) : k = ((es.take j).filter fun e => keepV now is v e.n).length := by
  have := h.row.len
  rw [cellsV_len] at this
  omega
theorem RetJ.skip {es : List VE} {now v : Int} {is : Bool} {w wr : World} {o : Value} {j k : Nat} {e : VE} (h : RetJ es now is v w wr o j k) (he : es[j]? = some e) (hk : keepV now is v e.n = false) : RetJ es now is v w wr.drew o (j + 1) k := by
  have e1 : (es.take (j + 1)).filter (fun e => keepV now is v e.n) = (es.take j).filter fun e => keepV now is v e.n := by
    rw [List.take_add_one, he]
    simp [List.filter_append, hk]
  exact ⟨by rw [e1]; exact h.row, h.mod.drew⟩
theorem take_keep {es : List VE} {now v : Int} {is : Bool} {j : Nat} {e : VE} (he : es[j]? = some e) (hk : keepV now is v e.n = true) : cellsV ((es.take (j + 1)).filter fun e => keepV now is v e.n) = cellsV ((es.take j).filter fun e => keepV now is v e.n) ++ e.c := by
  have e1 : (es.take (j + 1)).filter (fun e => keepV now is v e.n) = ((es.take j).filter fun e => keepV now is v e.n) ++ [e] := by
    rw [List.take_add_one, he]
    simp [List.filter_append, hk]
  rw [e1, cellsV_append]
  rfl
set_option maxRecDepth 100000 in
set_option maxHeartbeats 6000000 in
theorem refRetire_any {w : World} {f : Nat → Prop} {xb : Nat} {es : List VE} {now : Int} {is : Bool} {lv : Value} (h : RT w f xb es now is lv) (v : Int) (hn : 0 ≤ now ∧ now < 4294967296) (hv : 0 ≤ v ∧ v < 4294967296) (hes : ∀ e ∈ es, 0 ≤ e.n ∧ e.n < 4294967296) (h8 : es.length ≤ 8) :
    Calls Tryz.prog 11 #[.pointer (some ⟨xb, 0, none⟩), .int .u32 v] w fun e w' => e = .returned (.int .i64 ((es.length : Int) - ((es.filter fun e => keepV now is v e.n).length : Int))) ∧ (∃ lv', RT w' (fun k => f k ∨ (w.heap.size ≤ k)) xb (es.filter fun e => keepV now is v e.n) now is lv') ∧ Mod (fun q => q = xb) w w' := by
  obtain ⟨ad, cp, rfl, hnc, hcm, hg⟩ := h.row.form
  unfold maxLen at hcm
  obtain ⟨n, hnn⟩ : ∃ n, n = es.length := ⟨_, rfl⟩
  rw [← hnn] at hnc hg h8
  have HT := Lib.hid h
  have HG := Lib.hid hg
  have HL := Lib.hid hnn
  have HES := Lib.hid hes
  have HXL := Lib.hid h.tab.lt
  obtain ⟨hn0, hn1⟩ := hn
  obtain ⟨hv0, hv1⟩ := hv
  clear h hg hes
  rw [← hnn]
  obtain ⟨es', hes'⟩ : ∃ es', es' = es.filter fun e => keepV now is v e.n := ⟨_, rfl⟩
  rw [← hes']
  have HE' := Lib.hid hes'
  clear hnn hes'
  have HJ0 : Hid (RetJ es now is v w (w.alloc (.cells #[] 52 (0, 0))) (.slice (some ⟨w.heap.size, 0, none⟩) 0 0) 0 0) := Lib.hid ⟨Row.empty w _ 2, (Mod.refl _ _).alloc _⟩
  go_enter Tryz.func11, Tryz.ntmps11
  go_wp2_with fail
  go_loopw [5, 6] (fun o i wr => ∃ j : Nat, j ≤ n ∧ i = .int .i64 (j : Int) ∧ ∃ k, RetJ es now is v w wr o j k) (fun _ i _ => n - (intOf i).toNat)
  case atStart => exact ⟨0, Nat.zero_le _, rfl, _, HJ0.out⟩
  case round =>
    clear HJ0
    obtain ⟨j, hj, rfl, k, hJ⟩ := hrel
    obtain ⟨ao, co, rfl, hko, hco, _⟩ := hJ.row.form
    unfold maxLen at hco
    have HJ := Lib.hid hJ
    clear hJ
    have hT := HT.out.keep HJ.out.mod (fun _ _ f => f) (fun f => f)
    have c0 : wr.cell? ⟨xb, 0, none⟩ = some (.slice ad n cp) := by have := hT.tab.cell (j := 0) rfl; rwa [← HL.out] at this
    by_cases hlt : j < n
    · obtain ⟨g, rfl, _, _, hc⟩ := HG.out (by omega)
      obtain ⟨e, he⟩ : ∃ e, es[j]? = some e := ⟨_, List.getElem?_eq_getElem (by have := HL.out; omega)⟩
      have HE := Lib.hid he
      have HEB := Lib.hid (HES.out e (List.mem_of_getElem? he))
      have cn := HJ.out.mod.cell (fun f => f) (hc _ _ (cellsV_get es j e he).1)
      have cr := HJ.out.mod.cell (fun f => f) (hc _ _ (cellsV_get es j e he).2)
      have hS : wr.drew.cell? ⟨xb, 0, none⟩ = some (.slice (some ⟨g, 0, none⟩) n cp) ∧ wr.drew.cell? ⟨xb, 1, none⟩ = some (.int .u32 now) ∧ wr.drew.cell? ⟨xb, 2, none⟩ = some (.bool is) ∧ wr.drew.cell? ⟨g, j * 2, none⟩ = some (.int .u32 e.n) := ⟨c0, hT.tab.cell rfl, hT.tab.cell rfl, cn⟩
      have HS := Lib.hid hS
      have HCR := Lib.hid cr
      have HRG : Hid (wr.drew.rangeAt g (j * 2) e.c) := Lib.hid fun i u hu => by
        match i, hu with
        | 0, hu => cases hu; exact cn
        | 1, hu => cases hu; exact cr
        | i + 2, hu => simp [VE.c] at hu
      have HONE : Hid (∀ u ∈ e.c.toArray.toList, u.oneCell' = true) := Lib.hid fun u hu => by
        obtain ⟨sv, hsv⟩ := HT.out.rows e (List.mem_of_getElem? he)
        obtain ⟨_, _, er, _⟩ := hsv.row.form
        simp [VE.c] at hu
        rcases hu with rfl | rfl
        · rfl
        · rw [er]; rfl
      have hk8 : k ≤ 8 := by have h1 := HJ.out.len; have h2 := List.length_filter_le (fun e => keepV now is v e.n) (es.take j); rw [List.length_take] at h2; omega
      clear hc he cn cr hS hT
      by_cases hg : Sr.gap e.n v ≤ 0
      · have hgd : decide (Sr.gap e.n v ≤ 0) = true := decide_eq_true hg
        have HGD := Lib.hid hgd
        clear hg
        go_wp2_with fail
        refine wp_region_plan [] [(0, 0), (1, 0), (2, 0), (3, 1), (4, 0), (5, 0), (6, 0), (7, 1), (8, 0), (9, 2), (10, 0), (11, 0), (12, 0), (13, 0), (14, 0), (15, 1), (16, 0), (17, 0), (18, 0), (19, 0), (20, 1), (21, 0), (22, 0), (23, 0), (24, 1), (25, 0), (26, 0), (27, 0), (28, 1), (29, 0), (30, 0), (31, 0)] (fun w' : World => w'.cell? ⟨xb, 0, none⟩ = some (.slice (some ⟨g, 0, none⟩) n cp) ∧ w'.cell? ⟨xb, 1, none⟩ = some (.int .u32 now) ∧ w'.cell? ⟨xb, 2, none⟩ = some (.bool is) ∧ w'.cell? ⟨g, j * 2, none⟩ = some (.int .u32 e.n)) (by kernel_rfl) (by kernel_rfl) (fun d _ _ _ _ h => by cases d <;> exact h) ?_
        repeat (first | (refine plan_skip rfl rfl ?_; simp only [List.getElem_toArray, List.getElem_cons_succ, List.getElem_cons_zero, Act.put, List.setIfInBounds_toArray, List.set_cons_zero, List.set_cons_succ]) | (refine plan_pass2 rfl rfl ?_; simp only [List.getElem_toArray, List.getElem_cons_succ, List.getElem_cons_zero, Act.put, List.setIfInBounds_toArray, List.set_cons_zero, List.set_cons_succ]) | (refine plan_pass3 rfl rfl ?_; simp only [List.getElem_toArray, List.getElem_cons_succ, List.getElem_cons_zero, Act.put, List.setIfInBounds_toArray, List.set_cons_zero, List.set_cons_succ]) | (refine plan_take (v := ?_) rfl rfl ?_ ?_; rotate_left; (focus (intro w0; go_simp; try with_reducible rfl)); simp only [List.getElem_toArray, List.getElem_cons_succ, List.getElem_cons_zero, Act.put, List.setIfInBounds_toArray, List.set_cons_zero, List.set_cons_succ]) | (refine plan_held (v := ?_) rfl rfl HS.out ?_ ?_; rotate_left; (focus (intro w0 hSw; (try dsimp only at hSw); go_split_ands; go_simp; try with_reducible rfl)); simp only [List.getElem_toArray, List.getElem_cons_succ, List.getElem_cons_zero, Act.put, List.setIfInBounds_toArray, List.set_cons_zero, List.set_cons_succ])  | (refine plan_skip1 rfl rfl HS.out ?_; simp only [List.getElem_toArray, List.getElem_cons_succ, List.getElem_cons_zero, Act.put, List.setIfInBounds_toArray, List.set_cons_zero, List.set_cons_succ]))
        (refine plan_do rfl rfl fun K hK => ?_; try simp only [List.getElem_toArray, List.getElem_cons_succ, List.getElem_cons_zero])
        go_simp
        refine (refGap_any _ _ HEB.out.1 HEB.out.2 hv0 hv1 _).mono ?_; rintro e' w2 ⟨rfl, rfl⟩
        refine hK _ _ HS.out ?_
        clear hK K
        try simp only [List.getElem_toArray, List.getElem_cons_succ, List.getElem_cons_zero, Act.put, List.setIfInBounds_toArray, List.set_cons_zero, List.set_cons_succ]
        repeat (first | (refine plan_skip rfl rfl ?_; simp only [List.getElem_toArray, List.getElem_cons_succ, List.getElem_cons_zero, Act.put, List.setIfInBounds_toArray, List.set_cons_zero, List.set_cons_succ]) | (refine plan_pass2 rfl rfl ?_; simp only [List.getElem_toArray, List.getElem_cons_succ, List.getElem_cons_zero, Act.put, List.setIfInBounds_toArray, List.set_cons_zero, List.set_cons_succ]) | (refine plan_pass3 rfl rfl ?_; simp only [List.getElem_toArray, List.getElem_cons_succ, List.getElem_cons_zero, Act.put, List.setIfInBounds_toArray, List.set_cons_zero, List.set_cons_succ]) | (refine plan_take (v := ?_) rfl rfl ?_ ?_; rotate_left; (focus (intro w0; go_simp; try with_reducible rfl)); simp only [List.getElem_toArray, List.getElem_cons_succ, List.getElem_cons_zero, Act.put, List.setIfInBounds_toArray, List.set_cons_zero, List.set_cons_succ]) | (refine plan_held (v := ?_) rfl rfl HS.out ?_ ?_; rotate_left; (focus (intro w0 hSw; (try dsimp only at hSw); go_split_ands; go_simp; try with_reducible rfl)); simp only [List.getElem_toArray, List.getElem_cons_succ, List.getElem_cons_zero, Act.put, List.setIfInBounds_toArray, List.set_cons_zero, List.set_cons_succ])  | (refine plan_skip1 rfl rfl HS.out ?_; simp only [List.getElem_toArray, List.getElem_cons_succ, List.getElem_cons_zero, Act.put, List.setIfInBounds_toArray, List.set_cons_zero, List.set_cons_succ]))
        refine plan_nil ?_
        have c0' := HS.out.1
        have HKP : Hid (keepV now is v e.n = true) := Lib.hid (by unfold keepV; rw [HGD.out]; rfl)
        go_wp2_with (first | (refine wpList_load_midG rfl _ _ rfl g (j * 2) rfl e.c _ HRG.out Tryz.underlying52 rfl vSz ?_) | (refine wpList_buildSlice1 Tryz.elV rfl _ rfl e.c rfl rfl (by decide) (by decide) ?_) | (at_builtin; refine wpList_append_one Tryz.elV rfl (.tmp 50) (.tmp 58) rfl e.c.toArray (fun q => w.heap.size ≤ q) (.slice ao k co) k _ (HJ.out.row.drew.alloc _) wr.heap.size (allocNew wr _) rfl rfl rfl HONE.out (by have := HJ.out.len; omega) (by unfold maxLen; omega) ?_; intro v9 w9 h9 h9m; have H9 := Lib.hid h9; have H9M := Lib.hid h9m; clear h9 h9m))
        have HJ9 : Hid (RetJ es now is v w w9 v9 (j + 1) (k + 1)) := Lib.hid ⟨by rw [take_keep HE.out HKP.out]; exact H9.out.mono fun q hq => hq.elim (fun x => x) fun x => Nat.le_trans HJ.out.mod.size (Nat.le_trans (by simp) x), ((HJ.out.mod.drew.alloc _).trans H9M.out fun q hq => .inr (HJ.out.row.2 q hq))⟩
        go_roundw
        case rel => exact ⟨j + 1, by omega, by go_num, _, HJ9.out⟩
        case measure => simp [intOf]; omega
      · have hgd : decide (Sr.gap e.n v ≤ 0) = false := decide_eq_false hg
        have HGD := Lib.hid hgd
        clear hg
        cases is with
        | false =>
          go_wp2_with fail
          refine wp_region_plan [] [(0, 0), (1, 0), (2, 0), (3, 1), (4, 0), (5, 0), (6, 0), (7, 1), (8, 0), (9, 2), (10, 0), (11, 0), (12, 0), (13, 0), (14, 0), (15, 1), (16, 0), (17, 0), (18, 0), (19, 0), (20, 1), (21, 0), (22, 0), (23, 0), (24, 1), (25, 0), (26, 0), (27, 0), (28, 1), (29, 0), (30, 0), (31, 0)] (fun w' : World => w'.cell? ⟨xb, 0, none⟩ = some (.slice (some ⟨g, 0, none⟩) n cp) ∧ w'.cell? ⟨xb, 1, none⟩ = some (.int .u32 now) ∧ w'.cell? ⟨xb, 2, none⟩ = some (.bool false) ∧ w'.cell? ⟨g, j * 2, none⟩ = some (.int .u32 e.n)) (by kernel_rfl) (by kernel_rfl) (fun d _ _ _ _ h => by cases d <;> exact h) ?_
          repeat (first | (refine plan_skip rfl rfl ?_; simp only [List.getElem_toArray, List.getElem_cons_succ, List.getElem_cons_zero, Act.put, List.setIfInBounds_toArray, List.set_cons_zero, List.set_cons_succ]) | (refine plan_pass2 rfl rfl ?_; simp only [List.getElem_toArray, List.getElem_cons_succ, List.getElem_cons_zero, Act.put, List.setIfInBounds_toArray, List.set_cons_zero, List.set_cons_succ]) | (refine plan_pass3 rfl rfl ?_; simp only [List.getElem_toArray, List.getElem_cons_succ, List.getElem_cons_zero, Act.put, List.setIfInBounds_toArray, List.set_cons_zero, List.set_cons_succ]) | (refine plan_take (v := ?_) rfl rfl ?_ ?_; rotate_left; (focus (intro w0; go_simp; try with_reducible rfl)); simp only [List.getElem_toArray, List.getElem_cons_succ, List.getElem_cons_zero, Act.put, List.setIfInBounds_toArray, List.set_cons_zero, List.set_cons_succ]) | (refine plan_held (v := ?_) rfl rfl HS.out ?_ ?_; rotate_left; (focus (intro w0 hSw; (try dsimp only at hSw); go_split_ands; go_simp; try with_reducible rfl)); simp only [List.getElem_toArray, List.getElem_cons_succ, List.getElem_cons_zero, Act.put, List.setIfInBounds_toArray, List.set_cons_zero, List.set_cons_succ])  | (refine plan_skip1 rfl rfl HS.out ?_; simp only [List.getElem_toArray, List.getElem_cons_succ, List.getElem_cons_zero, Act.put, List.setIfInBounds_toArray, List.set_cons_zero, List.set_cons_succ]))
          (refine plan_do rfl rfl fun K hK => ?_; try simp only [List.getElem_toArray, List.getElem_cons_succ, List.getElem_cons_zero])
          go_simp
          refine (refGap_any _ _ HEB.out.1 HEB.out.2 hv0 hv1 _).mono ?_; rintro e' w2 ⟨rfl, rfl⟩
          refine hK _ _ HS.out ?_
          clear hK K
          try simp only [List.getElem_toArray, List.getElem_cons_succ, List.getElem_cons_zero, Act.put, List.setIfInBounds_toArray, List.set_cons_zero, List.set_cons_succ]
          repeat (first | (refine plan_skip rfl rfl ?_; simp only [List.getElem_toArray, List.getElem_cons_succ, List.getElem_cons_zero, Act.put, List.setIfInBounds_toArray, List.set_cons_zero, List.set_cons_succ]) | (refine plan_pass2 rfl rfl ?_; simp only [List.getElem_toArray, List.getElem_cons_succ, List.getElem_cons_zero, Act.put, List.setIfInBounds_toArray, List.set_cons_zero, List.set_cons_succ]) | (refine plan_pass3 rfl rfl ?_; simp only [List.getElem_toArray, List.getElem_cons_succ, List.getElem_cons_zero, Act.put, List.setIfInBounds_toArray, List.set_cons_zero, List.set_cons_succ]) | (refine plan_take (v := ?_) rfl rfl ?_ ?_; rotate_left; (focus (intro w0; go_simp; try with_reducible rfl)); simp only [List.getElem_toArray, List.getElem_cons_succ, List.getElem_cons_zero, Act.put, List.setIfInBounds_toArray, List.set_cons_zero, List.set_cons_succ]) | (refine plan_held (v := ?_) rfl rfl HS.out ?_ ?_; rotate_left; (focus (intro w0 hSw; (try dsimp only at hSw); go_split_ands; go_simp; try with_reducible rfl)); simp only [List.getElem_toArray, List.getElem_cons_succ, List.getElem_cons_zero, Act.put, List.setIfInBounds_toArray, List.set_cons_zero, List.set_cons_succ])  | (refine plan_skip1 rfl rfl HS.out ?_; simp only [List.getElem_toArray, List.getElem_cons_succ, List.getElem_cons_zero, Act.put, List.setIfInBounds_toArray, List.set_cons_zero, List.set_cons_succ]))
          refine plan_nil ?_
          have HJ9 := Lib.hid (HJ.out.skip HE.out (by unfold keepV; rw [HGD.out]; rfl))
          go_wp2
          go_roundw
          case rel => exact ⟨j + 1, by omega, by go_num, _, HJ9.out⟩
          case measure => simp [intOf]; omega
        | true =>
          by_cases hen : e.n = now
          · have hq : (e.n == now) = true := by simp [hen]
            have hq2 : decide (e.n = now) = true := decide_eq_true hen
            have HQ := Lib.hid hq2
            clear hen
            go_wp2_with fail
            refine wp_region_plan [] [(0, 0), (1, 0), (2, 0), (3, 1), (4, 0), (5, 0), (6, 0), (7, 1), (8, 0), (9, 2), (10, 0), (11, 0), (12, 0), (13, 0), (14, 0), (15, 1), (16, 0), (17, 0), (18, 0), (19, 0), (20, 1), (21, 0), (22, 0), (23, 0), (24, 1), (25, 0), (26, 0), (27, 0), (28, 1), (29, 0), (30, 0), (31, 0)] (fun w' : World => w'.cell? ⟨xb, 0, none⟩ = some (.slice (some ⟨g, 0, none⟩) n cp) ∧ w'.cell? ⟨xb, 1, none⟩ = some (.int .u32 now) ∧ w'.cell? ⟨xb, 2, none⟩ = some (.bool true) ∧ w'.cell? ⟨g, j * 2, none⟩ = some (.int .u32 e.n)) (by kernel_rfl) (by kernel_rfl) (fun d _ _ _ _ h => by cases d <;> exact h) ?_
            repeat (first | (refine plan_skip rfl rfl ?_; simp only [List.getElem_toArray, List.getElem_cons_succ, List.getElem_cons_zero, Act.put, List.setIfInBounds_toArray, List.set_cons_zero, List.set_cons_succ]) | (refine plan_pass2 rfl rfl ?_; simp only [List.getElem_toArray, List.getElem_cons_succ, List.getElem_cons_zero, Act.put, List.setIfInBounds_toArray, List.set_cons_zero, List.set_cons_succ]) | (refine plan_pass3 rfl rfl ?_; simp only [List.getElem_toArray, List.getElem_cons_succ, List.getElem_cons_zero, Act.put, List.setIfInBounds_toArray, List.set_cons_zero, List.set_cons_succ]) | (refine plan_take (v := ?_) rfl rfl ?_ ?_; rotate_left; (focus (intro w0; go_simp; try with_reducible rfl)); simp only [List.getElem_toArray, List.getElem_cons_succ, List.getElem_cons_zero, Act.put, List.setIfInBounds_toArray, List.set_cons_zero, List.set_cons_succ]) | (refine plan_held (v := ?_) rfl rfl HS.out ?_ ?_; rotate_left; (focus (intro w0 hSw; (try dsimp only at hSw); go_split_ands; go_simp; try with_reducible rfl)); simp only [List.getElem_toArray, List.getElem_cons_succ, List.getElem_cons_zero, Act.put, List.setIfInBounds_toArray, List.set_cons_zero, List.set_cons_succ])  | (refine plan_skip1 rfl rfl HS.out ?_; simp only [List.getElem_toArray, List.getElem_cons_succ, List.getElem_cons_zero, Act.put, List.setIfInBounds_toArray, List.set_cons_zero, List.set_cons_succ]))
            (refine plan_do rfl rfl fun K hK => ?_; try simp only [List.getElem_toArray, List.getElem_cons_succ, List.getElem_cons_zero])
            go_simp
            refine (refGap_any _ _ HEB.out.1 HEB.out.2 hv0 hv1 _).mono ?_; rintro e' w2 ⟨rfl, rfl⟩
            refine hK _ _ HS.out ?_
            clear hK K
            try simp only [List.getElem_toArray, List.getElem_cons_succ, List.getElem_cons_zero, Act.put, List.setIfInBounds_toArray, List.set_cons_zero, List.set_cons_succ]
            repeat (first | (refine plan_skip rfl rfl ?_; simp only [List.getElem_toArray, List.getElem_cons_succ, List.getElem_cons_zero, Act.put, List.setIfInBounds_toArray, List.set_cons_zero, List.set_cons_succ]) | (refine plan_pass2 rfl rfl ?_; simp only [List.getElem_toArray, List.getElem_cons_succ, List.getElem_cons_zero, Act.put, List.setIfInBounds_toArray, List.set_cons_zero, List.set_cons_succ]) | (refine plan_pass3 rfl rfl ?_; simp only [List.getElem_toArray, List.getElem_cons_succ, List.getElem_cons_zero, Act.put, List.setIfInBounds_toArray, List.set_cons_zero, List.set_cons_succ]) | (refine plan_take (v := ?_) rfl rfl ?_ ?_; rotate_left; (focus (intro w0; go_simp; try with_reducible rfl)); simp only [List.getElem_toArray, List.getElem_cons_succ, List.getElem_cons_zero, Act.put, List.setIfInBounds_toArray, List.set_cons_zero, List.set_cons_succ]) | (refine plan_held (v := ?_) rfl rfl HS.out ?_ ?_; rotate_left; (focus (intro w0 hSw; (try dsimp only at hSw); go_split_ands; go_simp; try with_reducible rfl)); simp only [List.getElem_toArray, List.getElem_cons_succ, List.getElem_cons_zero, Act.put, List.setIfInBounds_toArray, List.set_cons_zero, List.set_cons_succ])  | (refine plan_skip1 rfl rfl HS.out ?_; simp only [List.getElem_toArray, List.getElem_cons_succ, List.getElem_cons_zero, Act.put, List.setIfInBounds_toArray, List.set_cons_zero, List.set_cons_succ]))
            refine plan_nil ?_
            have c0' := HS.out.1
            have HKP : Hid (keepV now true v e.n = true) := Lib.hid (by unfold keepV; rw [HGD.out, HQ.out]; rfl)
            go_wp2_with (first | (refine wpList_load_midG rfl _ _ rfl g (j * 2) rfl e.c _ HRG.out Tryz.underlying52 rfl vSz ?_) | (refine wpList_buildSlice1 Tryz.elV rfl _ rfl e.c rfl rfl (by decide) (by decide) ?_) | (at_builtin; refine wpList_append_one Tryz.elV rfl (.tmp 50) (.tmp 58) rfl e.c.toArray (fun q => w.heap.size ≤ q) (.slice ao k co) k _ (HJ.out.row.drew.alloc _) wr.heap.size (allocNew wr _) rfl rfl rfl HONE.out (by have := HJ.out.len; omega) (by unfold maxLen; omega) ?_; intro v9 w9 h9 h9m; have H9 := Lib.hid h9; have H9M := Lib.hid h9m; clear h9 h9m))
            have HJ9 : Hid (RetJ es now true v w w9 v9 (j + 1) (k + 1)) := Lib.hid ⟨by rw [take_keep HE.out HKP.out]; exact H9.out.mono fun q hq => hq.elim (fun x => x) fun x => Nat.le_trans HJ.out.mod.size (Nat.le_trans (by simp) x), ((HJ.out.mod.drew.alloc _).trans H9M.out fun q hq => .inr (HJ.out.row.2 q hq))⟩
            go_roundw
            case rel => exact ⟨j + 1, by omega, by go_num, _, HJ9.out⟩
            case measure => simp [intOf]; omega
          · have hq : (e.n == now) = false := by simp [hen]
            have hq2 : decide (e.n = now) = false := decide_eq_false hen
            have HQ := Lib.hid hq2
            clear hen
            go_wp2_with fail
            refine wp_region_plan [] [(0, 0), (1, 0), (2, 0), (3, 1), (4, 0), (5, 0), (6, 0), (7, 1), (8, 0), (9, 2), (10, 0), (11, 0), (12, 0), (13, 0), (14, 0), (15, 1), (16, 0), (17, 0), (18, 0), (19, 0), (20, 1), (21, 0), (22, 0), (23, 0), (24, 1), (25, 0), (26, 0), (27, 0), (28, 1), (29, 0), (30, 0), (31, 0)] (fun w' : World => w'.cell? ⟨xb, 0, none⟩ = some (.slice (some ⟨g, 0, none⟩) n cp) ∧ w'.cell? ⟨xb, 1, none⟩ = some (.int .u32 now) ∧ w'.cell? ⟨xb, 2, none⟩ = some (.bool true) ∧ w'.cell? ⟨g, j * 2, none⟩ = some (.int .u32 e.n)) (by kernel_rfl) (by kernel_rfl) (fun d _ _ _ _ h => by cases d <;> exact h) ?_
            repeat (first | (refine plan_skip rfl rfl ?_; simp only [List.getElem_toArray, List.getElem_cons_succ, List.getElem_cons_zero, Act.put, List.setIfInBounds_toArray, List.set_cons_zero, List.set_cons_succ]) | (refine plan_pass2 rfl rfl ?_; simp only [List.getElem_toArray, List.getElem_cons_succ, List.getElem_cons_zero, Act.put, List.setIfInBounds_toArray, List.set_cons_zero, List.set_cons_succ]) | (refine plan_pass3 rfl rfl ?_; simp only [List.getElem_toArray, List.getElem_cons_succ, List.getElem_cons_zero, Act.put, List.setIfInBounds_toArray, List.set_cons_zero, List.set_cons_succ]) | (refine plan_take (v := ?_) rfl rfl ?_ ?_; rotate_left; (focus (intro w0; go_simp; try with_reducible rfl)); simp only [List.getElem_toArray, List.getElem_cons_succ, List.getElem_cons_zero, Act.put, List.setIfInBounds_toArray, List.set_cons_zero, List.set_cons_succ]) | (refine plan_held (v := ?_) rfl rfl HS.out ?_ ?_; rotate_left; (focus (intro w0 hSw; (try dsimp only at hSw); go_split_ands; go_simp; try with_reducible rfl)); simp only [List.getElem_toArray, List.getElem_cons_succ, List.getElem_cons_zero, Act.put, List.setIfInBounds_toArray, List.set_cons_zero, List.set_cons_succ])  | (refine plan_skip1 rfl rfl HS.out ?_; simp only [List.getElem_toArray, List.getElem_cons_succ, List.getElem_cons_zero, Act.put, List.setIfInBounds_toArray, List.set_cons_zero, List.set_cons_succ]))
            (refine plan_do rfl rfl fun K hK => ?_; try simp only [List.getElem_toArray, List.getElem_cons_succ, List.getElem_cons_zero])
            go_simp
            refine (refGap_any _ _ HEB.out.1 HEB.out.2 hv0 hv1 _).mono ?_; rintro e' w2 ⟨rfl, rfl⟩
            refine hK _ _ HS.out ?_
            clear hK K
            try simp only [List.getElem_toArray, List.getElem_cons_succ, List.getElem_cons_zero, Act.put, List.setIfInBounds_toArray, List.set_cons_zero, List.set_cons_succ]
            repeat (first | (refine plan_skip rfl rfl ?_; simp only [List.getElem_toArray, List.getElem_cons_succ, List.getElem_cons_zero, Act.put, List.setIfInBounds_toArray, List.set_cons_zero, List.set_cons_succ]) | (refine plan_pass2 rfl rfl ?_; simp only [List.getElem_toArray, List.getElem_cons_succ, List.getElem_cons_zero, Act.put, List.setIfInBounds_toArray, List.set_cons_zero, List.set_cons_succ]) | (refine plan_pass3 rfl rfl ?_; simp only [List.getElem_toArray, List.getElem_cons_succ, List.getElem_cons_zero, Act.put, List.setIfInBounds_toArray, List.set_cons_zero, List.set_cons_succ]) | (refine plan_take (v := ?_) rfl rfl ?_ ?_; rotate_left; (focus (intro w0; go_simp; try with_reducible rfl)); simp only [List.getElem_toArray, List.getElem_cons_succ, List.getElem_cons_zero, Act.put, List.setIfInBounds_toArray, List.set_cons_zero, List.set_cons_succ]) | (refine plan_held (v := ?_) rfl rfl HS.out ?_ ?_; rotate_left; (focus (intro w0 hSw; (try dsimp only at hSw); go_split_ands; go_simp; try with_reducible rfl)); simp only [List.getElem_toArray, List.getElem_cons_succ, List.getElem_cons_zero, Act.put, List.setIfInBounds_toArray, List.set_cons_zero, List.set_cons_succ])  | (refine plan_skip1 rfl rfl HS.out ?_; simp only [List.getElem_toArray, List.getElem_cons_succ, List.getElem_cons_zero, Act.put, List.setIfInBounds_toArray, List.set_cons_zero, List.set_cons_succ]))
            refine plan_nil ?_
            have HJ9 := Lib.hid (HJ.out.skip HE.out (by unfold keepV; rw [HGD.out, HQ.out]; rfl))
            go_wp2
            go_roundw
            case rel => exact ⟨j + 1, by omega, by go_num, _, HJ9.out⟩
            case measure => simp [intOf]; omega
    · obtain rfl : j = n := by omega
      have hkl := HJ.out.len
      rw [show es.take j = es from List.take_of_length_le (by have := HL.out; omega), ← HE'.out] at hkl
      have hrow := HJ.out.row
      rw [show es.take j = es from List.take_of_length_le (by have := HL.out; omega), ← HE'.out] at hrow
      have hle : k ≤ j := by rw [hkl, HE'.out, HL.out]; exact List.length_filter_le _ _
      have hwr : IntKind.i64.wrap ((j : Int) - (k : Int)) = (j : Int) - (k : Int) := IntWalk.i64_in _ (by omega)
      have f0 := hT.tab.free 0
      have hm : Mod (fun q => q = xb) wr (wr.setCell ⟨xb, 0, none⟩ (.slice ao k co)) := (Mod.refl (fun q => q = xb) wr).setCell (p := ⟨xb, 0, none⟩) (.inl rfl) _
      have hxl := HXL.out
      have HRT : Hid (RT (wr.setCell ⟨xb, 0, none⟩ (.slice ao k co)) (fun q => f q ∨ w.heap.size ≤ q) xb es' now is (.slice ao k co)) := Lib.hid ⟨hT.tab.set 0 (.slice ao k co), by
        rw [← hkl]
        exact (hrow.keep hm fun q hq e => by have : w.heap.size ≤ q := hq; omega).mono fun q hq => .inr hq, fun e he => by
        obtain ⟨sv, hs⟩ := hT.rows e (by rw [HE'.out] at he; exact (List.mem_filter.1 he).1)
        exact ⟨sv, (hs.keep hm fun q hq e => HT.out.far (by rw [← show q = xb from e]; exact hq)).mono fun q hq => .inl hq⟩, fun hx => hx.elim HT.out.far fun hx => by omega⟩
      have HM : Hid (Mod (fun q => q = xb) w (wr.setCell ⟨xb, 0, none⟩ (.slice ao k co))) := Lib.hid ((HJ.out.mod.mono fun _ f => f.elim).trans hm fun q hq => .inl hq)
      have HKL := Lib.hid hkl
      clear hT hm hrow hle hkl
      go_wp2
      go_ret
      refine ⟨by rw [← HKL.out]; rfl, ⟨_, HRT.out⟩, HM.out⟩
end Go.Proofs.YtegjamjognpdkaaGreat
