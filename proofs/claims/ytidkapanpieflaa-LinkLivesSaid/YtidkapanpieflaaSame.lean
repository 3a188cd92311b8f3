/- Two lists that are the same; a string that is cut. -/
import Derived.Test.YtidkapanpieflaaRefR
namespace Go.Proofs.Ytidkapanpieflaa
open Go.RowKit
set_option linter.unusedVariables false
set_option linter.unusedSimpArgs false
/-- a slice that can be read -/
def Reads (w : World) (v : Value) (n : Nat) (xs : List Value) : Prop :=
  ∃ ad cap, v = .slice ad n cap ∧ n ≤ cap ∧ cap ≤ maxLen ∧ (0 < n → ∃ g o, ad = some ⟨g, o, none⟩ ∧ ∀ i u, xs[i]? = some u → w.cell? ⟨g, o + i, none⟩ = some u)
theorem Row.reads {w : World} {f : Nat → Prop} {e : TypeId} {sz n : Nat} {v : Value} {xs : List Value} (h : Row w f e sz v n xs) : Reads w v n xs := by
  obtain ⟨ad, cap, rfl, hn, hc, hg⟩ := h.form
  refine ⟨ad, cap, rfl, hn, hc, fun h => ?_⟩
  obtain ⟨g, rfl, _, _, hcg⟩ := hg h
  exact ⟨g, 0, rfl, fun i u hu => by rw [Nat.zero_add]; exact hcg i u hu⟩
theorem str_get (l : List ByteArray) (j : Nat) (h : j < l.length) : (l.map Value.string)[j]? = some (.string l[j]) := by simp [h]
theorem Reads.keep0 {w w' : World} {v : Value} {n : Nat} {xs : List Value} (h : Reads w v n xs) (hm : Mod (fun _ => False) w w') : Reads w' v n xs := by
  obtain ⟨ad, cap, h1, h2, h3, h4⟩ := h
  refine ⟨ad, cap, h1, h2, h3, fun h => ?_⟩
  obtain ⟨g, o, h5, h6⟩ := h4 h
  exact ⟨g, o, h5, fun i u hu => hm.cell (fun f => f) (h6 i u hu)⟩
theorem bytes_eq {x y : ByteArray} (h : x.toList = y.toList) : x = y := by
  rw [ByteArray.toList_eq, ByteArray.toList_eq] at h
  cases x; cases y
  simpa using h
theorem same_all {α : Type} {l m : List α} {n : Nat} (hl : l.length = n) (hm : m.length = n) (h : ∀ t, t < n → l[t]? = m[t]?) : l = m := by
  apply List.ext_getElem?
  intro t
  rcases Nat.lt_or_ge t n with h1 | h1
  · exact h t h1
  · rw [List.getElem?_eq_none (by omega), List.getElem?_eq_none (by omega)]
set_option maxRecDepth 100000 in
theorem SameStr_any (a b : Value) (xs ys : List ByteArray) (w : World) (ha : Reads w a xs.length (xs.map .string)) (hb : Reads w b ys.length (ys.map .string)) :
    Calls Try.prog 20 #[a, b] w fun e w' => e = .returned (.bool (decide (xs = ys))) ∧ Mod (fun _ => False) w w' := by
  obtain ⟨aa, ac, rfl, han, hac, hag⟩ := ha
  obtain ⟨ba, bc, rfl, hbn, hbc, hbg⟩ := hb
  have HAG := Lib.hid hag
  have HBG := Lib.hid hbg
  unfold maxLen at hac hbc
  clear hag hbg
  go_enter Try.func20, Try.ntmps20
  by_cases hl : xs.length = ys.length
  · have HL := Lib.hid hl
    obtain ⟨n, hn⟩ : ∃ n, xs.length = n := ⟨_, rfl⟩
    have hn' : ys.length = n := by omega
    have HN := Lib.hid hn
    have HN' := Lib.hid hn'
    rw [hn, hn']
    rw [hn] at HAG han
    rw [hn'] at HBG hbn
    clear hl hn hn'
    go_wp2
    go_loopw [5] (fun i wr => ∃ j : Nat, j ≤ n ∧ i = .int .i64 j ∧ Mod (fun _ => False) w wr ∧ ∀ t, t < j → xs[t]? = ys[t]?) (fun i _ => n - (intOf i).toNat)
    case atStart => exact ⟨0, Nat.zero_le _, rfl, Mod.refl _ _, fun t h => by omega⟩
    case round =>
      obtain ⟨j, hj, rfl, hm, hno⟩ := hrel
      have HM := Lib.hid hm
      have HNO := Lib.hid hno
      clear hm hno
      by_cases hlt : j < n
      · obtain ⟨g, o, rfl, hcg⟩ := HAG.out (by omega)
        obtain ⟨g', o', rfl, hcg'⟩ := HBG.out (by omega)
        obtain ⟨x, hx⟩ : ∃ x, x = xs[j]'(by rw [HN.out]; exact hlt) := ⟨_, rfl⟩
        obtain ⟨y, hy⟩ : ∃ y, y = ys[j]'(by rw [HN'.out]; exact hlt) := ⟨_, rfl⟩
        have c1 : wr.cell? ⟨g, o + j, none⟩ = some (.string x) := HM.out.cell (fun f => f) (hx ▸ hcg _ _ (str_get xs j _))
        have c2 : wr.cell? ⟨g', o' + j, none⟩ = some (.string y) := HM.out.cell (fun f => f) (hy ▸ hcg' _ _ (str_get ys j _))
        have EX : Hid (xs[j]? = some x) := Lib.hid (by rw [hx]; simp)
        have EY : Hid (ys[j]? = some y) := Lib.hid (by rw [hy]; simp)
        have hki : (j : Int) < (n : Int) := by omega
        have hS : wr.drew.cell? ⟨g, o + j, none⟩ = some (.string x) ∧ wr.drew.cell? ⟨g', o' + j, none⟩ = some (.string y) := ⟨c1, c2⟩
        clear hcg hcg' hx hy c1 c2
        by_cases he : x = y
        · have hbq : (x.toList == y.toList) = true := by rw [he]; exact beq_self_eq_true _
          have HE := Lib.hid he
          clear he
          go_wp2
          refine wp_region_plan [] [(0, 0), (1, 0), (2, 0), (3, 1), (4, 0), (5, 0), (6, 0), (7, 1), (8, 0)] (fun w' : World => w'.cell? ⟨g, o + j, none⟩ = some (.string x) ∧ w'.cell? ⟨g', o' + j, none⟩ = some (.string y)) (by kernel_rfl) (by kernel_rfl) (fun d _ _ _ _ h => by cases d <;> exact h) ?_
          repeat (first | (refine plan_skip rfl rfl ?_; simp only [List.getElem_toArray, List.getElem_cons_succ, List.getElem_cons_zero, Act.put, List.setIfInBounds_toArray, List.set_cons_zero, List.set_cons_succ]) | (refine plan_pass2 rfl rfl ?_; simp only [List.getElem_toArray, List.getElem_cons_succ, List.getElem_cons_zero, Act.put, List.setIfInBounds_toArray, List.set_cons_zero, List.set_cons_succ]) | (refine plan_pass3 rfl rfl ?_; simp only [List.getElem_toArray, List.getElem_cons_succ, List.getElem_cons_zero, Act.put, List.setIfInBounds_toArray, List.set_cons_zero, List.set_cons_succ]) | (refine plan_take (v := ?_) rfl rfl ?_ ?_; rotate_left; (focus (intro w0; go_simp; try with_reducible rfl)); simp only [List.getElem_toArray, List.getElem_cons_succ, List.getElem_cons_zero, Act.put, List.setIfInBounds_toArray, List.set_cons_zero, List.set_cons_succ]) | (refine plan_held (v := ?_) rfl rfl hS ?_ ?_; rotate_left; (focus (intro w0 hSw; (try dsimp only at hSw); go_split_ands; go_simp; try with_reducible rfl)); simp only [List.getElem_toArray, List.getElem_cons_succ, List.getElem_cons_zero, Act.put, List.setIfInBounds_toArray, List.set_cons_zero, List.set_cons_succ])  | (refine plan_skip1 rfl rfl hS ?_; simp only [List.getElem_toArray, List.getElem_cons_succ, List.getElem_cons_zero, Act.put, List.setIfInBounds_toArray, List.set_cons_zero, List.set_cons_succ]))
          refine plan_nil ?_
          go_wp2
          go_roundw
          case rel => exact ⟨j + 1, by omega, by go_num, HM.out.drew, fun t ht => by
            rcases Nat.lt_or_ge t j with h' | h'
            · exact HNO.out t h'
            · obtain rfl : t = j := by omega
              rw [EX.out, EY.out, HE.out]⟩
          case measure => simp [intOf]; omega
        · have hbq : (x.toList == y.toList) = false := by rw [beq_eq_false_iff_ne]; exact fun h => he (bytes_eq h)
          have EA : Hid (decide (xs = ys) = false) := Lib.hid (decide_eq_false fun h => he (by have := EX.out; rw [h, EY.out] at this; cases this; rfl))
          clear he
          go_wp2
          refine wp_region_plan [] [(0, 0), (1, 0), (2, 0), (3, 1), (4, 0), (5, 0), (6, 0), (7, 1), (8, 0)] (fun w' : World => w'.cell? ⟨g, o + j, none⟩ = some (.string x) ∧ w'.cell? ⟨g', o' + j, none⟩ = some (.string y)) (by kernel_rfl) (by kernel_rfl) (fun d _ _ _ _ h => by cases d <;> exact h) ?_
          repeat (first | (refine plan_skip rfl rfl ?_; simp only [List.getElem_toArray, List.getElem_cons_succ, List.getElem_cons_zero, Act.put, List.setIfInBounds_toArray, List.set_cons_zero, List.set_cons_succ]) | (refine plan_pass2 rfl rfl ?_; simp only [List.getElem_toArray, List.getElem_cons_succ, List.getElem_cons_zero, Act.put, List.setIfInBounds_toArray, List.set_cons_zero, List.set_cons_succ]) | (refine plan_pass3 rfl rfl ?_; simp only [List.getElem_toArray, List.getElem_cons_succ, List.getElem_cons_zero, Act.put, List.setIfInBounds_toArray, List.set_cons_zero, List.set_cons_succ]) | (refine plan_take (v := ?_) rfl rfl ?_ ?_; rotate_left; (focus (intro w0; go_simp; try with_reducible rfl)); simp only [List.getElem_toArray, List.getElem_cons_succ, List.getElem_cons_zero, Act.put, List.setIfInBounds_toArray, List.set_cons_zero, List.set_cons_succ]) | (refine plan_held (v := ?_) rfl rfl hS ?_ ?_; rotate_left; (focus (intro w0 hSw; (try dsimp only at hSw); go_split_ands; go_simp; try with_reducible rfl)); simp only [List.getElem_toArray, List.getElem_cons_succ, List.getElem_cons_zero, Act.put, List.setIfInBounds_toArray, List.set_cons_zero, List.set_cons_succ])  | (refine plan_skip1 rfl rfl hS ?_; simp only [List.getElem_toArray, List.getElem_cons_succ, List.getElem_cons_zero, Act.put, List.setIfInBounds_toArray, List.set_cons_zero, List.set_cons_succ]))
          refine plan_nil ?_
          go_wp2
          go_ret
          exact ⟨by rw [EA.out]; rfl, HM.out.drew⟩
      · have EA : Hid (decide (xs = ys) = true) := Lib.hid (decide_eq_true (same_all HN.out HN'.out fun t ht => HNO.out t (by omega)))
        go_wp2
        go_ret
        exact ⟨by rw [EA.out]; rfl, HM.out⟩
  · have EA : Hid (decide (xs = ys) = false) := Lib.hid (decide_eq_false fun h => hl (by rw [h]))
    obtain ⟨n, hn⟩ : ∃ n, xs.length = n := ⟨_, rfl⟩
    obtain ⟨m, hm⟩ : ∃ m, ys.length = m := ⟨_, rfl⟩
    rw [hn, hm] at hl
    rw [hn, hm]
    have hli : ¬ ((n : Int) = (m : Int)) := by omega
    clear hn hm HAG HBG hl
    go_wp2
    go_ret
    exact ⟨by rw [EA.out]; rfl, Mod.refl _ _⟩
instance : DecidableEq Pkt := fun a b => decidable_of_iff (a.seq = b.seq ∧ a.body = b.body) (by cases a; cases b; simp)
set_option maxRecDepth 100000 in
theorem SamePkt_any (a b : Value) (xs ys : List Pkt) (w : World) (ha : Reads w a xs.length (Pkt.vals xs)) (hb : Reads w b ys.length (Pkt.vals ys)) :
    Calls Try.prog 31 #[a, b] w fun e w' => e = .returned (.bool (decide (xs = ys))) ∧ Mod (fun _ => False) w w' := by
  obtain ⟨aa, ac, rfl, han, hac, hag⟩ := ha
  obtain ⟨ba, bc, rfl, hbn, hbc, hbg⟩ := hb
  have HAG := Lib.hid hag
  have HBG := Lib.hid hbg
  unfold maxLen at hac hbc
  clear hag hbg
  go_enter Try.func31, Try.ntmps31
  by_cases hl : xs.length = ys.length
  · have HL := Lib.hid hl
    obtain ⟨n, hn⟩ : ∃ n, xs.length = n := ⟨_, rfl⟩
    have hn' : ys.length = n := by omega
    have HN := Lib.hid hn
    have HN' := Lib.hid hn'
    rw [hn, hn']
    rw [hn] at HAG han
    rw [hn'] at HBG hbn
    clear hl hn hn'
    go_wp2
    go_loopw [5] (fun i wr => ∃ j : Nat, j ≤ n ∧ i = .int .i64 j ∧ Mod (fun _ => False) w wr ∧ ∀ t, t < j → xs[t]? = ys[t]?) (fun i _ => n - (intOf i).toNat)
    case atStart => exact ⟨0, Nat.zero_le _, rfl, Mod.refl _ _, fun t h => by omega⟩
    case round =>
      obtain ⟨j, hj, rfl, hm, hno⟩ := hrel
      have HM := Lib.hid hm
      have HNO := Lib.hid hno
      clear hm hno
      by_cases hlt : j < n
      · obtain ⟨g, o, rfl, hcg⟩ := HAG.out (by omega)
        obtain ⟨g', o', rfl, hcg'⟩ := HBG.out (by omega)
        obtain ⟨x, hx⟩ : ∃ x, x = xs[j]'(by rw [HN.out]; exact hlt) := ⟨_, rfl⟩
        obtain ⟨y, hy⟩ : ∃ y, y = ys[j]'(by rw [HN'.out]; exact hlt) := ⟨_, rfl⟩
        have c1 : wr.cell? ⟨g, o + j * 2, none⟩ = some (.int .u32 x.seq) := HM.out.cell (fun f => f) (hx ▸ hcg _ _ (vals_get xs j _).1)
        have c1' : wr.cell? ⟨g, o + j * 2 + 1, none⟩ = some (.string x.body) := HM.out.cell (fun f => f) (hx ▸ hcg _ _ (vals_get xs j _).2)
        have c2 : wr.cell? ⟨g', o' + j * 2, none⟩ = some (.int .u32 y.seq) := HM.out.cell (fun f => f) (hy ▸ hcg' _ _ (vals_get ys j _).1)
        have c2' : wr.cell? ⟨g', o' + j * 2 + 1, none⟩ = some (.string y.body) := HM.out.cell (fun f => f) (hy ▸ hcg' _ _ (vals_get ys j _).2)
        have EX : Hid (xs[j]? = some x) := Lib.hid (by rw [hx]; simp)
        have EY : Hid (ys[j]? = some y) := Lib.hid (by rw [hy]; simp)
        have hki : (j : Int) < (n : Int) := by omega
        have hS : wr.drew.cell? ⟨g, o + j * 2, none⟩ = some (.int .u32 x.seq) ∧ wr.drew.cell? ⟨g, o + j * 2 + 1, none⟩ = some (.string x.body) ∧ wr.drew.cell? ⟨g', o' + j * 2, none⟩ = some (.int .u32 y.seq) ∧ wr.drew.cell? ⟨g', o' + j * 2 + 1, none⟩ = some (.string y.body) := ⟨c1, c1', c2, c2'⟩
        clear hcg hcg' hx hy c1 c2 c1' c2'
        by_cases he : x = y
        · have hbq : (x.seq == y.seq) = true := by rw [he]; exact beq_self_eq_true _
          have hbr : (x.body.toList == y.body.toList) = true := by rw [he]; exact beq_self_eq_true _
          have HE := Lib.hid he
          clear he
          go_wp2
          refine wp_region_plan [] [(0, 0), (1, 0), (2, 0), (3, 1), (4, 0), (5, 0), (6, 0), (7, 1), (8, 0)] (fun w' : World => w'.cell? ⟨g, o + j * 2, none⟩ = some (.int .u32 x.seq) ∧ w'.cell? ⟨g, o + j * 2 + 1, none⟩ = some (.string x.body) ∧ w'.cell? ⟨g', o' + j * 2, none⟩ = some (.int .u32 y.seq) ∧ w'.cell? ⟨g', o' + j * 2 + 1, none⟩ = some (.string y.body)) (by kernel_rfl) (by kernel_rfl) (fun d _ _ _ _ h => by cases d <;> exact h) ?_
          repeat (first | (refine plan_skip rfl rfl ?_; simp only [List.getElem_toArray, List.getElem_cons_succ, List.getElem_cons_zero, Act.put, List.setIfInBounds_toArray, List.set_cons_zero, List.set_cons_succ]) | (refine plan_pass2 rfl rfl ?_; simp only [List.getElem_toArray, List.getElem_cons_succ, List.getElem_cons_zero, Act.put, List.setIfInBounds_toArray, List.set_cons_zero, List.set_cons_succ]) | (refine plan_pass3 rfl rfl ?_; simp only [List.getElem_toArray, List.getElem_cons_succ, List.getElem_cons_zero, Act.put, List.setIfInBounds_toArray, List.set_cons_zero, List.set_cons_succ]) | (refine plan_take (v := ?_) rfl rfl ?_ ?_; rotate_left; (focus (intro w0; go_simp; try with_reducible rfl)); simp only [List.getElem_toArray, List.getElem_cons_succ, List.getElem_cons_zero, Act.put, List.setIfInBounds_toArray, List.set_cons_zero, List.set_cons_succ]) | (refine plan_held (v := ?_) rfl rfl hS ?_ ?_; rotate_left; (focus (intro w0 hSw; (try dsimp only at hSw); go_split_ands; go_simp; try with_reducible rfl)); simp only [List.getElem_toArray, List.getElem_cons_succ, List.getElem_cons_zero, Act.put, List.setIfInBounds_toArray, List.set_cons_zero, List.set_cons_succ])  | (refine plan_skip1 rfl rfl hS ?_; simp only [List.getElem_toArray, List.getElem_cons_succ, List.getElem_cons_zero, Act.put, List.setIfInBounds_toArray, List.set_cons_zero, List.set_cons_succ]))
          refine plan_nil ?_
          go_wp2
          go_roundw
          case rel => exact ⟨j + 1, by omega, by go_num, HM.out.drew, fun t ht => by
            rcases Nat.lt_or_ge t j with h' | h'
            · exact HNO.out t h'
            · obtain rfl : t = j := by omega
              rw [EX.out, EY.out, HE.out]⟩
          case measure => simp [intOf]; omega
        · have EA : Hid (decide (xs = ys) = false) := Lib.hid (decide_eq_false fun h => he (by have := EX.out; rw [h, EY.out] at this; cases this; rfl))
          have hbb : ((x.seq == y.seq) = true ∧ (x.body.toList == y.body.toList) = false) ∨ ((x.seq == y.seq) = false ∧ (x.body.toList == y.body.toList) = true) ∨ ((x.seq == y.seq) = false ∧ (x.body.toList == y.body.toList) = false) := by
            cases h1 : x.seq == y.seq <;> cases h2 : x.body.toList == y.body.toList <;> simp
            simp at h1 h2
            exact he (by cases x; cases y; simp at h1 h2 ⊢; exact ⟨h1, bytes_eq h2⟩)
          clear he
          rcases hbb with ⟨hbq, hbr⟩ | ⟨hbq, hbr⟩ | ⟨hbq, hbr⟩
          all_goals
            go_wp2
            refine wp_region_plan [] [(0, 0), (1, 0), (2, 0), (3, 1), (4, 0), (5, 0), (6, 0), (7, 1), (8, 0)] (fun w' : World => w'.cell? ⟨g, o + j * 2, none⟩ = some (.int .u32 x.seq) ∧ w'.cell? ⟨g, o + j * 2 + 1, none⟩ = some (.string x.body) ∧ w'.cell? ⟨g', o' + j * 2, none⟩ = some (.int .u32 y.seq) ∧ w'.cell? ⟨g', o' + j * 2 + 1, none⟩ = some (.string y.body)) (by kernel_rfl) (by kernel_rfl) (fun d _ _ _ _ h => by cases d <;> exact h) ?_
            repeat (first | (refine plan_skip rfl rfl ?_; simp only [List.getElem_toArray, List.getElem_cons_succ, List.getElem_cons_zero, Act.put, List.setIfInBounds_toArray, List.set_cons_zero, List.set_cons_succ]) | (refine plan_pass2 rfl rfl ?_; simp only [List.getElem_toArray, List.getElem_cons_succ, List.getElem_cons_zero, Act.put, List.setIfInBounds_toArray, List.set_cons_zero, List.set_cons_succ]) | (refine plan_pass3 rfl rfl ?_; simp only [List.getElem_toArray, List.getElem_cons_succ, List.getElem_cons_zero, Act.put, List.setIfInBounds_toArray, List.set_cons_zero, List.set_cons_succ]) | (refine plan_take (v := ?_) rfl rfl ?_ ?_; rotate_left; (focus (intro w0; go_simp; try with_reducible rfl)); simp only [List.getElem_toArray, List.getElem_cons_succ, List.getElem_cons_zero, Act.put, List.setIfInBounds_toArray, List.set_cons_zero, List.set_cons_succ]) | (refine plan_held (v := ?_) rfl rfl hS ?_ ?_; rotate_left; (focus (intro w0 hSw; (try dsimp only at hSw); go_split_ands; go_simp; try with_reducible rfl)); simp only [List.getElem_toArray, List.getElem_cons_succ, List.getElem_cons_zero, Act.put, List.setIfInBounds_toArray, List.set_cons_zero, List.set_cons_succ])  | (refine plan_skip1 rfl rfl hS ?_; simp only [List.getElem_toArray, List.getElem_cons_succ, List.getElem_cons_zero, Act.put, List.setIfInBounds_toArray, List.set_cons_zero, List.set_cons_succ]))
            refine plan_nil ?_
            go_wp2
            go_ret
            exact ⟨by rw [EA.out]; rfl, HM.out.drew⟩
      · have EA : Hid (decide (xs = ys) = true) := Lib.hid (decide_eq_true (same_all HN.out HN'.out fun t ht => HNO.out t (by omega)))
        go_wp2
        go_ret
        exact ⟨by rw [EA.out]; rfl, HM.out⟩
  · have EA : Hid (decide (xs = ys) = false) := Lib.hid (decide_eq_false fun h => hl (by rw [h]))
    obtain ⟨n, hn⟩ : ∃ n, xs.length = n := ⟨_, rfl⟩
    obtain ⟨m, hm⟩ : ∃ m, ys.length = m := ⟨_, rfl⟩
    rw [hn, hm] at hl
    rw [hn, hm]
    have hli : ¬ ((n : Int) = (m : Int)) := by omega
    clear hn hm HAG HBG hl
    go_wp2
    go_ret
    exact ⟨by rw [EA.out]; rfl, Mod.refl _ _⟩
/-- a text's first bytes -/
def cutB (s : ByteArray) (n : Int) : ByteArray := if (s.size : Int) > n then s.extract 0 n.toNat else s
theorem Cut_any (s : ByteArray) (n : Int) (h0 : 0 ≤ n) (h1 : n < 9223372036854775808) (w : World) : Calls Try.prog 19 #[.string s, .int .i64 n] w fun e w' => e = .returned (.string (cutB s n)) ∧ w = w' := by
  go_enter Try.func19, Try.ntmps19
  by_cases h : (s.size : Int) > n
  · have EA : Hid (cutB s n = s.extract 0 n.toNat) := Lib.hid (if_pos h)
    have h' : n < (s.size : Int) := h
    go_wp2
    go_ret
    exact ⟨by rw [EA.out]; rfl, rfl⟩
  · have EA : Hid (cutB s n = s) := Lib.hid (if_neg h)
    have h' : ¬ n < (s.size : Int) := h
    go_wp2
    go_ret
    exact ⟨by rw [EA.out]; rfl, rfl⟩
end Go.Proofs.Ytidkapanpieflaa
