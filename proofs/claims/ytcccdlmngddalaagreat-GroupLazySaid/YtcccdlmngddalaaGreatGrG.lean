/- slices.Compact at addresses that rise: contract. -/
import Derived.Test.YtcccdlmngddalaaGreatGrB
import Derived.Test.YtcccdlmngddalaaGreatRowK
import Derived.Test.YtcccdlmngddalaaGreatGrE
namespace Go.Proofs.YtcccdlmngddalaaGreat
open Go.RowKit Go.Sort
set_option linter.unusedVariables false
set_option linter.unusedSimpArgs false
theorem exec_ne {P : Program} {ev : Operand → Value} {op : Oper} {x y : Operand} {t q : TypeId} (ho : op.op = .binOp .neq t x y q) {xs ys : Array Value} (ex : ev x = .agg xs) (ey : ev y = .agg ys) {b : Bool} {w : World} (hg : P.eqGuardType P.depth t = false) (h : (Op.equalIn 10000 t (.agg xs) (.agg ys)).run P w = .ok b w) :
    (execOp ev op).run P w = .ok (.value (.bool (!b))) w := by
  simp only [execOp, ho, ex, ey, Sem.run_bind, run_eqGuard_agg w _ t _ _ _ _ hg, run_neq_struct, h, Result.andThen_ok, Sem.run_pure]
theorem eq_ad (x y : Ad) : decide (x.v = y.v ∧ x.b = y.b) = decide (x = y) := by
  by_cases h : x = y
  · subst h; simp
  · rw [decide_eq_false h, decide_eq_false fun e => h (Ad.ext' e.1 e.2)]
theorem exec_eq_ad {ev : Operand → Value} {op : Oper} {x y : Operand} {q : TypeId} (ho : op.op = .binOp .eql 36 x y q) (a b : Ad) (ex : ev x = .agg a.c.toArray) (ey : ev y = .agg b.c.toArray) (w : World) :
    (execOp ev op).run Tryz.prog w = .ok (.value (.bool (decide (a = b)))) w := by
  rw [← eq_ad]
  exact exec_eq_adr ho a.v b.v a.b b.b a.ok.1 b.ok.1 ex ey w
theorem exec_ne_ad {ev : Operand → Value} {op : Oper} {x y : Operand} {q : TypeId} (ho : op.op = .binOp .neq 36 x y q) (a b : Ad) (ex : ev x = .agg a.c.toArray) (ey : ev y = .agg b.c.toArray) (w : World) :
    (execOp ev op).run Tryz.prog w = .ok (.value (.bool (!decide (a = b)))) w := by
  rw [← eq_ad]
  exact exec_ne ho ex ey adr_guard (eqIn_adr w 9997 a.v b.v a.b b.b a.ok.1 b.ok.1)
/-- rising, equals beside one another -/
def WAsc (l : List Ad) : Prop := (l.Pairwise fun a b => a.rk ≤ b.rk) ∧ ∀ a ∈ l, a.good = true
theorem wasc_at {l : List Ad} (h : WAsc l) {s t : Nat} {x y : Ad} (hx : l[s]? = some x) (hy : l[t]? = some y) (hst : s ≤ t) : x.rk ≤ y.rk := by
  rcases Nat.lt_or_ge s t with h3 | h3
  · obtain ⟨h1, rfl⟩ := List.getElem?_eq_some_iff.1 hx
    obtain ⟨h2, rfl⟩ := List.getElem?_eq_some_iff.1 hy
    exact List.pairwise_iff_getElem.1 h.1 s t h1 h2 h3
  · obtain rfl : s = t := by omega
    rw [hx] at hy; cases hy; exact Nat.le_refl _
/-- the first k, each once -/
theorem as_snoc {r : List Ad} {x : Ad} (h : AS r) (hg : x.good = true) (hl : ∀ y ∈ r, y.rk < x.rk) : AS (r ++ [x]) :=
  ⟨List.pairwise_append.2 ⟨h.1, List.pairwise_singleton _ _, fun a ha b hb => by rw [List.mem_singleton.1 hb]; exact hl a ha⟩, fun a ha => by
    rcases List.mem_append.1 ha with ha | ha
    · exact h.2 a ha
    · rw [List.mem_singleton.1 ha]; exact hg⟩
theorem as_next {l : List Ad} (h : WAsc l) {k : Nat} {p x : Ad} {r : List Ad} (hr : AS r) (hm : ∀ a, a ∈ r ↔ a ∈ l.take (k + 1)) (hp : l[k]? = some p) (hx : l[k + 1]? = some x) (hne : x ≠ p) : AS (r ++ [x]) := by
  have hxg := h.2 x (List.mem_of_getElem? hx)
  have hpg := h.2 p (List.mem_of_getElem? hp)
  have hpx := wasc_at h hp hx (by omega)
  have hlt : p.rk < x.rk := by
    rcases Nat.lt_or_ge p.rk x.rk with h1 | h1
    · exact h1
    · exact absurd (Ad.rk_inj hxg hpg (by omega)) hne
  refine as_snoc hr hxg fun y hy => ?_
  obtain ⟨t, ht, e⟩ := List.getElem_of_mem ((hm y).1 hy)
  have h2 : l[t]? = some y := by
    rw [List.length_take] at ht
    rw [← e, List.getElem_take, List.getElem?_eq_getElem]
  have h3 : t ≤ k := by rw [List.length_take] at ht; omega
  have := wasc_at h h2 hp h3
  omega
/-- behind pos elements, k of them kept -/
structure CpK (w wr : World) (f : Nat → Prop) (v : Value) (l : List Ad) (k pos : Nat) (arr : List Ad) : Prop where
  len : arr.length = l.length
  row : RowA wr f v arr
  lt : k < pos
  one : 0 < k
  fr : AS (arr.take k)
  mem : ∀ a, a ∈ arr.take k ↔ a ∈ l.take pos
  back : arr.drop (pos - 1) = l.drop (pos - 1)
  mod : Mod (fun q => v.ownBlock = some q) w wr
theorem CpK.at {w wr : World} {f : Nat → Prop} {v : Value} {l arr : List Ad} {k pos : Nat} (h : CpK w wr f v l k pos arr) {t : Nat} (ht : pos - 1 ≤ t) : arr[t]? = l[t]? := by
  have := congrArg (fun l => l[t - (pos - 1)]?) h.back
  simp only [List.getElem?_drop] at this
  rwa [show pos - 1 + (t - (pos - 1)) = t by omega] at this
theorem row_at {w : World} {f : Nat → Prop} {g n cap : Nat} {l : List Ad} (h : RowA w f (.slice (some ⟨g, 0, none⟩) n cap) l) {j : Nat} {x : Ad} (hx : l[j]? = some x) : w.rangeAt g (j * 17) x.c := by
  obtain ⟨g2, o2, cap2, e, _, _, hc⟩ := h.rd.at (j := j) (List.getElem?_eq_some_iff.1 hx).1
  injection e with e
  injection e with e
  injection e with e3 e4
  subst e3 e4
  have := hc j x hx
  rwa [Nat.zero_add] at this
set_option maxRecDepth 100000 in
set_option maxHeartbeats 2000000 in
theorem Compact_any {w : World} {f : Nat → Prop} {v : Value} {l : List Ad} (h : RowA w f v l) (hs : WAsc l) (hn : l.length ≤ 5000) :
    Calls Tryz.prog 130 #[v] w fun e w' => ∃ (v' : Value) (r : List Ad), e = .returned v' ∧ RowA w' f v' r ∧ AS r ∧ (∀ a, a ∈ r ↔ a ∈ l) ∧ Mod (fun q => v.ownBlock = some q) w w' := by
  obtain ⟨n, hnl⟩ : ∃ n, n = l.length := ⟨_, rfl⟩
  have hh := h
  obtain ⟨ad, cap, rfl, hnc, hcm, hg⟩ := Row.form h
  unfold maxLen at hcm
  rw [← hnl] at hnc hn hh ⊢
  have HN := Lib.hid hnl
  have HH := Lib.hid hh
  have HS := Lib.hid hs
  have HAD : Hid (0 < n → ∃ g0, ad = some ⟨g0, 0, none⟩) := Lib.hid fun h => by obtain ⟨g0, e, _⟩ := hg (by rw [← hnl]; exact h); exact ⟨g0, e⟩
  clear hg hnl h hh hs
  go_enter Tryz.func130, Tryz.ntmps130
  by_cases h2 : n < 2
  · have HA : Hid (AS l) := Lib.hid (by
      have h3 := HN.out
      match l, HS.out with
      | [], _ => exact AS.nil
      | [a], hs => exact AS.nil.cons (hs.2 a List.mem_cons_self) fun x hx => (by cases hx)
      | a :: b :: l, _ => simp at h3; omega)
    go_wp2
    go_ret
    exact ⟨_, l, rfl, HH.out, HA.out, fun a => Iff.rfl, Mod.refl _ _⟩
  · obtain ⟨g0, rfl⟩ := HAD.out (by omega)
    have HK0 : Hid (AS (l.take 1)) := Lib.hid (by
      have h3 := HN.out
      match l, HS.out with
      | [], _ => exact AS.nil
      | a :: l, hs => exact AS.nil.cons (hs.2 a List.mem_cons_self) fun x hx => (by cases hx))
    clear HAD
    go_wp2_with fail
    go_loopw [3] (fun kv wr => ∃ q : Nat, q + 1 ≤ n ∧ kv = .int .i64 ((q + 1 : Nat) : Int) ∧ AS (l.take (q + 1)) ∧ Mod (fun _ => False) w wr) (fun kv _ => n - (intOf kv).toNat)
    case atStart => exact ⟨0, by omega, rfl, HK0.out, Mod.refl _ _⟩
    case round =>
      clear HK0
      obtain ⟨q, hq, rfl, has, hm⟩ := hrel
      have HAS := Lib.hid has
      have HM := Lib.hid hm
      clear has hm
      obtain ⟨k, hk⟩ : ∃ k, k = q + 1 := ⟨_, rfl⟩
      rw [← hk] at HAS hq ⊢
      have HQ := Lib.hid hk
      clear hk
      by_cases hlt : k < n
      · obtain ⟨x, hx⟩ : ∃ x, l[k]? = some x := ⟨_, List.getElem?_eq_getElem (by rw [← HN.out]; exact hlt)⟩
        obtain ⟨p, hp⟩ : ∃ p, l[q]? = some p := ⟨_, List.getElem?_eq_getElem (by rw [← HN.out]; have := HQ.out; omega)⟩
        have HXA := Lib.hid (keepRange HM.out (row_at HH.out hx))
        have HPA := Lib.hid (keepRange HM.out (row_at HH.out hp))
        have HX := Lib.hid hx
        have HP := Lib.hid hp
        have HXS := Lib.hid x.c_sz
        have HPS := Lib.hid p.c_sz
        have ek : IntKind.i64.wrap ((k : Int) - 1) = (q : Int) := by have := HQ.out; rw [show (k : Int) - 1 = (q : Int) by omega]; exact IntWalk.i64_in _ (by omega)
        have hqn : q < n := by have := HQ.out; omega
        clear hx hp
        have hS : wr.drew.rangeAt g0 (k * 17) x.c ∧ wr.drew.rangeAt g0 (q * 17) p.c := ⟨HXA.out, HPA.out⟩
        go_wp2_with fail
        refine wp_region_plan [] [(0, 0), (1, 0), (2, 0), (3, 1), (4, 0), (5, 0), (6, 0), (7, 0), (8, 1), (9, 0)] (fun w' : World => w'.rangeAt g0 (k * 17) x.c ∧ w'.rangeAt g0 (q * 17) p.c) (by kernel_rfl) (by kernel_rfl) (fun d v c a w h => by first | (cases d <;> exact h) | exact HP d v c a w h) ?_
        repeat ((first | refine plan_skip rfl rfl ?_ | refine plan_pass2 rfl rfl ?_ | refine plan_pass3 rfl rfl ?_ | (refine plan_take (v := ?_) rfl rfl ?_ ?_; rotate_left; focus (intro w0; go_simp; try with_reducible rfl))); simp only [List.getElem_toArray, List.getElem_cons_succ, List.getElem_cons_zero, Act.put, List.setIfInBounds_toArray, List.set_cons_zero, List.set_cons_succ])
        (refine plan_held (v := .agg x.c.toArray) rfl rfl hS (fun w0 h0 => exec_load_mid _ _ rfl g0 (k * 17) rfl x.c _ w0 h0.1 Tryz.underlying36 rfl HXS.out) ?_; try simp only [List.getElem_toArray, List.getElem_cons_succ, List.getElem_cons_zero, Act.put, List.setIfInBounds_toArray, List.set_cons_zero, List.set_cons_succ])
        repeat ((first | refine plan_skip rfl rfl ?_ | refine plan_pass2 rfl rfl ?_ | refine plan_pass3 rfl rfl ?_ | (refine plan_take (v := ?_) rfl rfl ?_ ?_; rotate_left; focus (intro w0; go_simp; try with_reducible rfl))); simp only [List.getElem_toArray, List.getElem_cons_succ, List.getElem_cons_zero, Act.put, List.setIfInBounds_toArray, List.set_cons_zero, List.set_cons_succ])
        (refine plan_held (v := .agg p.c.toArray) rfl rfl hS (fun w0 h0 => exec_load_mid _ _ rfl g0 (q * 17) rfl p.c _ w0 h0.2 Tryz.underlying36 rfl HPS.out) ?_; try simp only [List.getElem_toArray, List.getElem_cons_succ, List.getElem_cons_zero, Act.put, List.setIfInBounds_toArray, List.set_cons_zero, List.set_cons_succ])
        refine plan_take (v := .bool (decide (x = p))) rfl rfl (fun w0 => exec_eq_ad rfl x p rfl rfl w0) ?_
        try simp only [List.getElem_toArray, List.getElem_cons_succ, List.getElem_cons_zero, Act.put, List.setIfInBounds_toArray, List.set_cons_zero, List.set_cons_succ]
        refine plan_nil ?_
        by_cases hxp : x = p
        · have hd : decide (x = p) = true := decide_eq_true hxp
          rw [hd]
          clear hd hS
          have HPM : Hid (CpK w wr.drew f (.slice (some ⟨g0, 0, none⟩) n cap) l k (k + 1) l) := Lib.hid (by
            refine ⟨rfl, HH.out.keep0 HM.out.drew, by omega, by have := HQ.out; omega, HAS.out, fun a => ?_, rfl, HM.out.drew.no⟩
            rw [List.take_add_one, HX.out]
            simp only [Option.toList_some, List.mem_append, List.mem_singleton]
            constructor
            · exact fun h => .inl h
            · rintro (h | rfl)
              · exact h
              · rw [hxp]
                have h3 : (l.take k)[q]? = some p := by rw [List.getElem?_take_of_lt (by have := HQ.out; omega)]; exact HP.out
                exact List.mem_of_getElem? h3)
          obtain ⟨d, hd⟩ : ∃ d, n = k + d := ⟨n - k, by omega⟩
          obtain ⟨cd, hcd⟩ : ∃ cd, cap = k + cd := ⟨cap - k, by omega⟩
          have hdc : d ≤ cd := by omega
          have hd0 : 0 < d := by omega
          have hd5 : d ≤ 5000 := by omega
          have HD := Lib.hid hd
          have HLO : Hid (loV 17 (.slice (some ⟨g0, 0, none⟩) n cap) k = .slice (some ⟨g0, k * 17, none⟩) d cd) := Lib.hid (by
            simp only [loV]
            rw [if_neg (by omega), hd, hcd, Nat.add_sub_cancel_left, Nat.add_sub_cancel_left]
            simp [addr_add])
          have HRD := Lib.hid (Row.reads (show Row w f 36 17 (.slice (some ⟨g0, 0, none⟩) n cap) n (cellsA l) by have := HH.out; unfold RowA at this; rwa [← HN.out] at this))
          clear hd hcd HAS HX HP HXA HPA HXS HPS ek hqn HM
          go_wp2_with (refine wpList_val rfl (.slice (some ⟨g0, k * 17, none⟩) d cd) (by rw [← HLO.out]; exact exec_slice_lo Tryz.elA rfl HRD.out rfl k rfl (by omega) _) ?_)
          go_loopw [3, 5] (fun kv ev wr => ∃ (kk e : Nat) (arr : List Ad), kk ≤ n ∧ e + 1 ≤ d ∧ kv = .int .i64 (kk : Int) ∧ ev = .int .i64 ((e + 1 : Nat) : Int) ∧ CpK w wr f (.slice (some ⟨g0, 0, none⟩) n cap) l kk (k + (e + 1)) arr) (fun _ ev _ => d - (intOf ev).toNat)
          case atStart => exact ⟨k, 0, l, by omega, by omega, rfl, rfl, HPM.out⟩
          case round =>
            clear HPM HLO HRD
            obtain ⟨kk, e, arr, hkk, he, rfl, rfl, hc⟩ := hrel
            have HC := Lib.hid hc
            clear hc
            obtain ⟨k2, hk2⟩ : ∃ k2, k2 = e + 1 := ⟨_, rfl⟩
            rw [← hk2] at HC he ⊢
            have HE := Lib.hid hk2
            clear hk2
            have hkp : kk < k + k2 := HC.out.lt
            have HROW : Hid (Row wr f 36 17 (.slice (some ⟨g0, 0, none⟩) n cap) n (cellsA arr)) := Lib.hid (by have := HC.out.row; unfold RowA at this; rwa [HC.out.len, ← HN.out] at this)
            by_cases hlt2 : k2 < d
            · obtain ⟨y, hy⟩ : ∃ y, l[k + k2]? = some y := ⟨_, List.getElem?_eq_getElem (by rw [← HN.out, HD.out]; omega)⟩
              obtain ⟨z, hz⟩ : ∃ z, l[k + e]? = some z := ⟨_, List.getElem?_eq_getElem (by have := HE.out; rw [← HN.out, HD.out]; omega)⟩
              have hya : arr[k + k2]? = some y := (HC.out.at (by omega)).trans hy
              have hza : arr[k + e]? = some z := (HC.out.at (by have := HE.out; omega)).trans hz
              have HYA : Hid (wr.rangeAt g0 (k * 17 + k2 * 17) y.c) := Lib.hid (by have := row_at HC.out.row hya; rwa [show (k + k2) * 17 = k * 17 + k2 * 17 by omega] at this)
              have HZA : Hid (wr.rangeAt g0 (k * 17 + e * 17) z.c) := Lib.hid (by have := row_at HC.out.row hza; rwa [show (k + e) * 17 = k * 17 + e * 17 by omega] at this)
              have HY := Lib.hid hy
              have HZ := Lib.hid hz
              have HYS := Lib.hid y.c_sz
              have HZS := Lib.hid z.c_sz
              have HY1 := Lib.hid y.c_one
              have HFIT : Hid (kk * 17 + y.c.length ≤ (cellsA arr).length) := Lib.hid (by rw [y.c_len, cellsA_len, HC.out.len, ← HN.out, HD.out]; omega)
              have ek : IntKind.i64.wrap ((k2 : Int) - 1) = (e : Int) := by have := HE.out; rw [show (k2 : Int) - 1 = (e : Int) by omega]; exact IntWalk.i64_in _ (by omega)
              have hed : e < d := by have := HE.out; omega
              have hkn : kk < n := by have := HD.out; omega
              clear hy hz hya hza
              have hS : wr.drew.rangeAt g0 (k * 17 + k2 * 17) y.c ∧ wr.drew.rangeAt g0 (k * 17 + e * 17) z.c := ⟨HYA.out, HZA.out⟩
              go_wp2_with fail
              refine wp_region_plan [] [(0, 0), (1, 0), (2, 0), (3, 1), (4, 0), (5, 0), (6, 0), (7, 0), (8, 1), (9, 0)] (fun w' : World => w'.rangeAt g0 (k * 17 + k2 * 17) y.c ∧ w'.rangeAt g0 (k * 17 + e * 17) z.c) (by kernel_rfl) (by kernel_rfl) (fun d v c a w h => by first | (cases d <;> exact h) | exact HP d v c a w h) ?_
              repeat ((first | refine plan_skip rfl rfl ?_ | refine plan_pass2 rfl rfl ?_ | refine plan_pass3 rfl rfl ?_ | (refine plan_take (v := ?_) rfl rfl ?_ ?_; rotate_left; focus (intro w0; go_simp; try with_reducible rfl))); simp only [List.getElem_toArray, List.getElem_cons_succ, List.getElem_cons_zero, Act.put, List.setIfInBounds_toArray, List.set_cons_zero, List.set_cons_succ])
              (refine plan_held (v := .agg y.c.toArray) rfl rfl hS (fun w0 h0 => exec_load_mid _ _ rfl g0 (k * 17 + k2 * 17) rfl y.c _ w0 h0.1 Tryz.underlying36 rfl HYS.out) ?_; try simp only [List.getElem_toArray, List.getElem_cons_succ, List.getElem_cons_zero, Act.put, List.setIfInBounds_toArray, List.set_cons_zero, List.set_cons_succ])
              repeat ((first | refine plan_skip rfl rfl ?_ | refine plan_pass2 rfl rfl ?_ | refine plan_pass3 rfl rfl ?_ | (refine plan_take (v := ?_) rfl rfl ?_ ?_; rotate_left; focus (intro w0; go_simp; try with_reducible rfl))); simp only [List.getElem_toArray, List.getElem_cons_succ, List.getElem_cons_zero, Act.put, List.setIfInBounds_toArray, List.set_cons_zero, List.set_cons_succ])
              (refine plan_held (v := .agg z.c.toArray) rfl rfl hS (fun w0 h0 => exec_load_mid _ _ rfl g0 (k * 17 + e * 17) rfl z.c _ w0 h0.2 Tryz.underlying36 rfl HZS.out) ?_; try simp only [List.getElem_toArray, List.getElem_cons_succ, List.getElem_cons_zero, Act.put, List.setIfInBounds_toArray, List.set_cons_zero, List.set_cons_succ])
              refine plan_take (v := .bool (!decide (y = z))) rfl rfl (fun w0 => exec_ne_ad rfl y z rfl rfl w0) ?_
              try simp only [List.getElem_toArray, List.getElem_cons_succ, List.getElem_cons_zero, Act.put, List.setIfInBounds_toArray, List.set_cons_zero, List.set_cons_succ]
              refine plan_nil ?_
              by_cases hyz : y = z
              · have hd : decide (y = z) = true := decide_eq_true hyz
                rw [hd]
                clear hd hS
                go_wp2
                go_roundw
                case rel =>
                  refine ⟨kk, k2, arr, hkk, by omega, rfl, by go_num, HC.out.len, HC.out.row, by omega, HC.out.one, HC.out.fr, fun a => ?_, ?_, HC.out.mod.drew⟩
                  · rw [HC.out.mem a, show k + (k2 + 1) = k + k2 + 1 by omega, List.take_add_one, HY.out]
                    simp only [Option.toList_some, List.mem_append, List.mem_singleton]
                    constructor
                    · exact fun h => .inl h
                    · rintro (h | rfl)
                      · exact h
                      · rw [hyz]
                        have h3 : (l.take (k + k2))[k + e]? = some z := by rw [List.getElem?_take_of_lt (by have := HE.out; omega)]; exact HZ.out
                        exact List.mem_of_getElem? h3
                  · have := HC.out.back
                    rw [show k + (k2 + 1) - 1 = (k + k2 - 1) + 1 by omega, ← List.drop_drop, ← List.drop_drop, this]
                case measure => simp [intOf]; omega
              · have hd : decide (y = z) = false := decide_eq_false hyz
                rw [hd]
                clear hd hS
                go_wp2_with (first
                  | (refine wpList_load_midG rfl _ _ rfl g0 (k * 17 + k2 * 17) rfl y.c _ HYA.out Tryz.underlying36 rfl HYS.out ?_)
                  | (refine wpList_store_rowK rfl _ _ _ rfl (show Row wr.drew f 36 17 (.slice (some ⟨g0, 0, none⟩) n cap) n (cellsA arr) from HROW.out) g0 (kk * 17) y.c rfl rfl rfl HFIT.out HYS.out HY1.out ?_; intro w5 HR5 HM5))
                go_roundw
                case rel =>
                  have hia : kk < arr.length := by have := HC.out.len; have := HN.out; omega
                  have ht : (arr.set kk y).take (kk + 1) = arr.take kk ++ [y] := by
                    rw [List.take_set, List.take_add_one, List.getElem?_eq_getElem hia, List.set_append_right _ _ (by rw [List.length_take]; omega)]
                    simp [List.length_take, show min kk arr.length = kk by omega]
                  refine ⟨kk + 1, k2, arr.set kk y, by omega, by omega, by go_num, by go_num, by rw [List.length_set]; exact HC.out.len, ?_, by omega, by omega, ?_, fun a => ?_, ?_, ?_⟩
                  · unfold RowA
                    rw [List.length_set, ← cellsA_set arr kk y hia, HC.out.len, ← HN.out]
                    exact HR5.out
                  · rw [ht]
                    refine as_next HS.out (k := k + e) HC.out.fr (fun a => ?_) HZ.out (by rw [show k + e + 1 = k + k2 by have := HE.out; omega]; exact HY.out) hyz
                    rw [HC.out.mem a, show k + e + 1 = k + k2 by have := HE.out; omega]
                  · rw [ht, show k + (k2 + 1) = k + k2 + 1 by omega, List.take_add_one, HY.out, List.mem_append, HC.out.mem a]
                    simp
                  · have := HC.out.back
                    rw [List.drop_set_of_lt (by omega), show k + (k2 + 1) - 1 = (k + k2 - 1) + 1 by omega, ← List.drop_drop, ← List.drop_drop, this]
                  · exact HC.out.mod.drew.trans HM5.out fun q hq => .inl (by rw [hq]; rfl)
                case measure => simp [intOf]; omega
            · have hkn : kk ≤ n := hkk
              have HPN : Hid (k + k2 = n) := Lib.hid (by rw [HD.out]; omega)
              go_wp2_with (first
                | (refine wpList_val rfl (loV 17 (.slice (some ⟨g0, 0, none⟩) n cap) kk) (exec_slice_lo Tryz.elA rfl (Row.reads HROW.out) rfl kk rfl hkn _) ?_)
                | (refine wpList_clear_lo rfl Tryz.elA _ rfl (adrC_one false z16) HROW.out kk hkn rfl ?_; intro w5 HR5 HM5)
                | (refine wpList_val rfl (hiV (.slice (some ⟨g0, 0, none⟩) n cap) kk) (exec_slice_hi Tryz.elA rfl (Row.reads HROW.out) rfl kk rfl hkn _) ?_))
              go_ret
              refine ⟨_, arr.take kk, rfl, ?_, HC.out.fr, fun a => ?_, HC.out.mod.trans HM5.out fun q hq => .inl hq⟩
              · unfold RowA
                rw [← cellsA_take, List.length_take, show min kk arr.length = kk by have := HC.out.len; have := HN.out; omega]
                exact HR5.out
              · rw [HC.out.mem a, HPN.out, HN.out, List.take_length]
        · have hd : decide (x = p) = false := decide_eq_false hxp
          rw [hd]
          have HA2 : Hid (AS (l.take (k + 1))) := Lib.hid (by
            have h3 := HX.out
            rw [HQ.out] at h3
            have := as_next HS.out (k := q) (r := l.take (q + 1)) (by rw [← HQ.out]; exact HAS.out) (fun a => Iff.rfl) HP.out h3 hxp
            rw [List.take_add_one, HX.out, HQ.out]
            exact this)
          clear hd hS
          go_wp2
          go_roundw
          case rel => exact ⟨k, by omega, by go_num, HA2.out, HM.out.drew⟩
          case measure => simp [intOf]; omega
      · have HT : Hid (l.take k = l) := Lib.hid (List.take_of_length_le (by rw [← HN.out]; omega))
        go_wp2
        go_ret
        exact ⟨_, l, rfl, HH.out.keep0 HM.out, by have := HAS.out; rwa [HT.out] at this, fun a => Iff.rfl, HM.out.no⟩
end Go.Proofs.YtcccdlmngddalaaGreat
