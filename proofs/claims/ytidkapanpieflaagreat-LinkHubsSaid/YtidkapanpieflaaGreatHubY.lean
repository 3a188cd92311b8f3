/- The reference's hub: Find, Push, Nodes: contracts. -/
import Derived.Test.YtidkapanpieflaaGreatHubX
import Derived.Test.YtidkapanpieflaaGreatHubS
import Derived.Test.YtidkapanpieflaaGreatLinkMem
namespace Go.Proofs.YtidkapanpieflaaGreat
open Go.RowKit
set_option linter.unusedVariables false
set_option linter.unusedSimpArgs false
section
variable {w w' : World} {F f : Nat → Prop} {xb : Nat} {l : List RLife} {gs : List (Int × Int)} {lv gv : Value} {pbo : Int → Nat} {c : Clr}
theorem ptrsC_len (pbo : Int → Nat) (l : List RLife) : (ptrsC pbo l).length = l.length := by simp [ptrsC]
theorem XIn.form (h : XIn w xb l gs lv gv pbo c) : ∃ ad cap, lv = .slice ad l.length cap ∧ l.length ≤ cap ∧ cap ≤ maxLen ∧ w.cell? ⟨xb, 0, none⟩ = some lv ∧ (0 < l.length → ∃ g, ad = some ⟨g, 0, none⟩ ∧ c g = .inr 1 ∧ g < w.heap.size ∧ ∀ (j : Nat) (x : RLife), l[j]? = some x → w.cell? ⟨g, j, none⟩ = some (.pointer (some ⟨pbo x.node, 0, none⟩))) := by
  obtain ⟨ad, cap, h1, h2, h3, h4⟩ := h.row.form
  refine ⟨ad, cap, h1, h2, h3, h.top.cell rfl, fun h0 => ?_⟩
  obtain ⟨g, e1, e2, e3, e4⟩ := h4 h0
  exact ⟨g, e1, e2, e3, fun j x hx => e4 j _ (by unfold ptrsC ptrV; rw [List.getElem?_map, hx]; rfl)⟩
theorem RLifeAt.cells {p : Nat} {L : RLife} (h : RLifeAt w p f L) : ∃ po pi, w.heap[p]? = some (.cells (L.cells po pi) 51 (0, 0)) := by
  obtain ⟨_, _, po, pi, _, _, hb, _⟩ := h
  exact ⟨po, pi, hb⟩
theorem XIn.nodeAt (h : XIn w xb l gs lv gv pbo c) {j : Nat} {x : RLife} (hx : l[j]? = some x) : w.cell? ⟨pbo x.node, 0, none⟩ = some (.int .i64 x.node) := by
  obtain ⟨po, pi, hb⟩ := (h.fam x (List.mem_of_getElem? hx)).cells
  exact cellOf hb 0
theorem XIn.epochAt (h : XIn w xb l gs lv gv pbo c) {j : Nat} {x : RLife} (hx : l[j]? = some x) : w.cell? ⟨pbo x.node, 2, none⟩ = some (.int .u32 x.epoch) := by
  obtain ⟨po, pi, hb⟩ := (h.fam x (List.mem_of_getElem? hx)).cells
  exact cellOf hb 2
theorem XIn.recol2 (h : XIn w xb l gs lv gv pbo c) {c' : Clr} (hc : ∀ k, ((∃ n, c k = .inl n) ∨ c k = .inr 0 ∨ c k = .inr 1 ∨ c k = .inr 2) → c' k = c k) : XIn w xb l gs lv gv pbo c' :=
  ⟨h.top, h.row.mono fun k hk => by rw [hc k (.inr (.inr (.inl hk)))]; exact hk, h.rowg.mono fun k hk => by rw [hc k (.inr (.inr (.inr hk)))]; exact hk, h.fam.recol rlifeKept fun k n hl e => by rw [hc k (.inl ⟨n, e⟩)]; exact e, h.asc, by rw [hc _ (.inr (.inl h.f0))]; exact h.f0, h.ge⟩
theorem XAt.open (h : XAt w f xb l gs) : ∃ lv gv pbo c, XIn w xb l gs lv gv pbo c ∧ Bag w w f c := by
  obtain ⟨lv, gv, pbo, c, h1, h2⟩ := h
  refine ⟨lv, gv, pbo, scrub c, h1.recol2 fun k hk => scrub_keep hk, Mod.refl _ _, fun k i hk h3 h9 => absurd (scrub_low hk h3) h9, fun k hk => .inl (h2 k (scrub_no hk))⟩
theorem XIn.shut (h : XIn w' xb l gs lv gv pbo c) (hb2 : Bag w w' f c) : XAt w' (fun k => f k ∨ w.heap.size ≤ k) xb l gs ∧ Mod f w w' :=
  ⟨⟨lv, gv, pbo, c, h, hb2.cf⟩, hb2.mod⟩
end
theorem Tryz.elI : Elem Tryz.prog 55 3 (.int .i64 0) 1 8 := .mk' Tryz.underlying55 (by kernel_rfl) rfl
theorem Tryz.elRL : Elem Tryz.prog 26 46 (.pointer none) 1 8 := .mk' Tryz.underlying26 (by kernel_rfl) rfl
theorem Tryz.elG : Elem Tryz.prog 27 77 (.agg #[.int .i64 0, .int .u32 0]) 2 16 := .mk' Tryz.underlying27 (by kernel_rfl) rfl
/-- the place of a node -/
def placeX (l : List RLife) (n : Int) (i : Int) : Prop := (i = -1 ∧ hfind RLife.node l n = none) ∨ ∃ (j : Nat) (L : RLife), i = (j : Int) ∧ l[j]? = some L ∧ L.node = n ∧ hfind RLife.node l n = some L
set_option maxRecDepth 100000 in
theorem XFind_any {w : World} {xb : Nat} {l : List RLife} {gs : List (Int × Int)} {lv gv : Value} {pbo : Int → Nat} {c : Clr} (h : XIn w xb l gs lv gv pbo c) (v : Int) :
    Calls Tryz.prog 18 #[.pointer (some ⟨xb, 0, none⟩), .int .i64 v] w fun e w' => ∃ i, e = .returned (.int .i64 i) ∧ placeX l v i ∧ w' = w := by
  obtain ⟨ad, cp, hlv, hnc, hcm, c0, hg⟩ := h.form
  unfold maxLen at hcm
  have HH := Lib.hid h
  rw [hlv] at c0
  obtain ⟨n, hn⟩ : ∃ n, n = l.length := ⟨_, rfl⟩
  rw [← hn] at c0 hnc hg
  have HG := Lib.hid hg
  have HL := Lib.hid hn
  clear h hg hn hlv
  go_enter Tryz.func18, Tryz.ntmps18
  go_wp2_with fail
  go_loopw [5] (fun i wr => ∃ j : Nat, j ≤ n ∧ i = .int .i64 (j : Int) ∧ wr = w ∧ ∀ i x, i < j → l[i]? = some x → x.node ≠ v) (fun i _ => n - (intOf i).toNat)
  case atStart => exact ⟨0, Nat.zero_le _, rfl, rfl, fun i x hi => by omega⟩
  case round =>
    obtain ⟨j, hj, rfl, rfl, hall⟩ := hrel
    have HA := Lib.hid hall
    clear hall
    by_cases hlt : j < n
    · obtain ⟨g, rfl, _, _, hc⟩ := HG.out (by omega)
      obtain ⟨x, hx⟩ : ∃ x, l[j]? = some x := ⟨_, List.getElem?_eq_getElem (by have := HL.out; omega)⟩
      have cx := hc _ _ hx
      have cn := HH.out.nodeAt hx
      have HX := Lib.hid hx
      clear hc hx
      by_cases hv : x.node = v
      · have hq : (x.node == v) = true := by simp [hv]
        have hq2 : decide (x.node = v) = true := decide_eq_true hv
        have HE : Hid (placeX l v (j : Int)) := Lib.hid (.inr ⟨j, x, rfl, HX.out, hv, hv ▸ hfind_of HH.out.asc (List.mem_of_getElem? HX.out)⟩)
        clear hv
        go_wp2
        go_ret
        exact ⟨_, rfl, HE.out, rfl⟩
      · have hq : (x.node == v) = false := by simp [hv]
        have hq2 : decide (x.node = v) = false := decide_eq_false hv
        have HA2 : Hid (∀ i y, i < j + 1 → l[i]? = some y → y.node ≠ v) := Lib.hid fun i y hi hy => by
          rcases Nat.lt_or_ge i j with h | h
          · exact HA.out i y h hy
          · obtain rfl : i = j := by omega
            rw [HX.out] at hy
            cases hy
            exact hv
        clear hv
        go_wp2
        go_roundw
        case rel => exact ⟨j + 1, by omega, by go_num, by first | rfl | trivial, HA2.out⟩
        case measure => simp [intOf]; omega
    · obtain rfl : j = n := by omega
      have HE : Hid (placeX l v (-1)) := Lib.hid (.inl ⟨rfl, hfind_none.2 fun x hx => by
        obtain ⟨i, hi, rfl⟩ := List.getElem_of_mem hx
        exact HA.out i _ (by rw [HL.out]; exact hi) (List.getElem?_eq_getElem hi)⟩)
      go_wp2
      go_ret
      exact ⟨_, rfl, HE.out, rfl⟩
set_option maxRecDepth 100000 in
theorem XPush_any {w : World} {f : Nat → Prop} {xb : Nat} {l : List RLife} {gs : List (Int × Int)} (h : XAt w f xb l gs) (n : Int) (b : ByteArray) (hbd : ∀ L ∈ l, L.s.l.length ≤ 1000000) :
    Calls Tryz.prog 7 #[.pointer (some ⟨xb, 0, none⟩), .int .i64 n, .string b] w fun e w' => e = .returned (.bool ((hfind RLife.node l n).elim false fun L => L.s.free)) ∧ XAt w' (fun k => f k ∨ w.heap.size ≤ k) xb ((hfind RLife.node l n).elim l fun L => hput RLife.node l { L with s := L.s.push b }) gs ∧ Mod f w w' := by
  obtain ⟨lv, gv, pbo, c, h, hbag⟩ := h.open
  have HF := Lib.hid (XFind_any h n)
  have HH := Lib.hid h
  have HB := Lib.hid hbag
  obtain ⟨ad, cp, hlv, hnc, hcm, c0, hg⟩ := h.form
  unfold maxLen at hcm
  rw [hlv] at c0
  have HG := Lib.hid hg
  clear h hbag hg
  go_enter Tryz.func7, Tryz.ntmps7
  go_wp2_with fail
  refine HF.out.mono ?_; rintro e w1 ⟨i, rfl, hp, rfl⟩
  rcases hp with ⟨rfl, hn⟩ | ⟨j, L, rfl, hj, hLn, hn⟩
  · have HX := Lib.hid (HH.out.shut HB.out)
    have HN := Lib.hid hn
    clear hn
    go_wp2
    go_ret
    rw [HN.out]
    exact ⟨rfl, HX.out⟩
  · have hjl : j < l.length := (List.getElem?_eq_some_iff.1 hj).1
    obtain ⟨g, rfl, hgc, hgl, hcell⟩ := HG.out (by omega)
    have x0 := hcell j L hj
    obtain ⟨_, hLA⟩ := HH.out.life hn
    rw [hLn] at x0
    obtain ⟨po, fs, d2, d3, hs, hnp, hfs, hset⟩ := hLA.sub
    have hki : (j : Int) < (l.length : Int) := by omega
    have hj0 : (0 : Int) ≤ (j : Int) := by omega
    have hcap : L.s.l.length ≤ 1000000 := hbd L (List.mem_of_getElem? hj)
    have HS := Lib.hid hs
    have HX : Hid (∀ w', RefSAt w' po (fun k => fs k ∨ w1.heap.size ≤ k) (L.s.push b) → Mod fs w1 w' → XAt w' (fun k => f k ∨ w1.heap.size ≤ k) xb (hput RLife.node l { L with s := L.s.push b }) gs ∧ Mod f w1 w') := Lib.hid fun w' a m => by
      obtain ⟨h1, h2⟩ := hset w' _ (L.s.push b) (fun k hk => hk) a m
      exact (HH.out.set hn (L' := { L with s := L.s.push b }) hLn h1 h2).shut (HB.out.step h2 (fun k hk => inl_ne hk) _)
    have HN := Lib.hid hn
    clear hcell hLA hs hfs hset hj hn
    go_wp2_with fail
    refine (RefPush_any po fs L.s b _ HS.out (by omega)).mono ?_; rintro e w2 ⟨rfl, hs, hm⟩
    have HY := Lib.hid (HX.out _ hs hm)
    clear hs hm
    go_wp2
    go_ret
    rw [HN.out]
    exact ⟨rfl, HY.out⟩
set_option maxRecDepth 100000 in
theorem XNodes_any {w : World} {f : Nat → Prop} {xb : Nat} {l : List RLife} {gs : List (Int × Int)} (h : XAt w f xb l gs) (hl : l.length ≤ 1000) :
    Calls Tryz.prog 24 #[.pointer (some ⟨xb, 0, none⟩)] w fun e w' => ∃ v, e = .returned v ∧ Row w' (fun k => w.heap.size ≤ k) 3 1 v l.length ((l.map RLife.node).map (Value.int .i64)) ∧ Mod (fun _ => False) w w' := by
  obtain ⟨lv, gv, pbo, c, h, hcf⟩ := h
  obtain ⟨ad, cp, hlv, hnc, hcm, c0, hg⟩ := h.form
  unfold maxLen at hcm
  have HH := Lib.hid h
  rw [hlv] at c0
  obtain ⟨n, hn⟩ : ∃ n, n = l.length := ⟨_, rfl⟩
  rw [← hn] at c0 hnc hg hl ⊢
  have HG := Lib.hid hg
  have HC := Lib.hid c0
  have HL := Lib.hid hn
  clear h hg hn hlv c0 hcf
  go_enter Tryz.func24, Tryz.ntmps24
  go_wp2_with fail
  go_loopw [3, 4] (fun out i wr => ∃ j : Nat, j ≤ n ∧ i = .int .i64 (j : Int) ∧ Row wr (fun k => w.heap.size ≤ k) 3 1 out j (((l.take j).map RLife.node).map (Value.int .i64)) ∧ Mod (fun _ => False) w wr) (fun _ i _ => n - (intOf i).toNat)
  case atStart => exact ⟨0, Nat.zero_le _, rfl, by simpa using Row.made (f := fun k => w.heap.size ≤ k) (cur := #[]) (sz := 1) (n := 0) (allocNew w (.cells #[] 3)) rfl (by unfold maxLen; omega) (Nat.le_refl _), (Mod.refl _ _).alloc _⟩
  case round =>
    obtain ⟨j, hj, rfl, hr, hm⟩ := hrel
    have HR := Lib.hid hr
    have HM := Lib.hid hm
    obtain ⟨oa, oc, rfl, _, _, _⟩ := hr.form
    have c0 := hm.cell (fun f => f) HC.out
    clear hr hm
    by_cases hlt : j < n
    · obtain ⟨g, rfl, _, _, hc⟩ := HG.out (by omega)
      obtain ⟨x, hx⟩ : ∃ x, l[j]? = some x := ⟨_, List.getElem?_eq_getElem (by have := HL.out; omega)⟩
      have cx := HM.out.cell (fun f => f) (hc _ _ hx)
      have cn := HM.out.cell (fun f => f) (HH.out.nodeAt hx)
      have htk : l.take (j + 1) = l.take j ++ [x] := by rw [List.take_add_one, hx]; rfl
      have HTK := Lib.hid htk
      have hki : (j : Int) < (n : Int) := by omega
      clear hc hx htk
      go_wp2_with (at_builtin; go_loud (refine wpList_append_one Tryz.elI rfl (.tmp 15) (.tmp 26) rfl #[.int .i64 x.node] _ _ _ _ (HR.out.alloc _) _ (allocNew wr _) rfl rfl rfl (by simp [Value.oneCell']) (by omega) (by unfold maxLen; omega) ?_); intro v4 w4 hR4 hm4)
      obtain ⟨o4, oc4, rfl, _, _, _⟩ := hR4.form
      have HR4 : Hid (Row w4 (fun k => w.heap.size ≤ k) 3 1 (.slice o4 (j + 1) oc4) (j + 1) (((l.take (j + 1)).map RLife.node).map (Value.int .i64))) := Lib.hid (by
        rw [HTK.out]
        have hs := HM.out.size
        have := hR4.mono (f' := fun k => w.heap.size ≤ k) fun k hk => by
          rcases hk with hk | hk
          · exact hk
          · simp at hk; omega
        simpa using this)
      have HM4 : Hid (Mod (fun _ => False) w w4) := Lib.hid ((HM.out.alloc _).trans (Mod.row (HR.out.alloc _) hm4) fun k hk => .inr hk)
      clear hR4 hm4
      go_roundw
      case rel => exact ⟨j + 1, by omega, by go_num, HR4.out, HM4.out⟩
      case measure => simp [intOf]; omega
    · obtain rfl : j = n := by omega
      have e1 : l.take j = l := by rw [HL.out]; exact List.take_length
      rw [e1] at HR
      go_wp2
      go_ret
      exact ⟨_, rfl, HR.out, HM.out⟩
end Go.Proofs.YtidkapanpieflaaGreat
