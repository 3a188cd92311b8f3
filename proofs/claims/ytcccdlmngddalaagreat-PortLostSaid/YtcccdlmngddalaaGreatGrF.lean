/- slices.SortFunc at addresses: contract (the kit's, at rows of our own). -/
import Derived.Test.YtcccdlmngddalaaGreatGrB
import Derived.Test.YtcccdlmngddalaaGreatGrLay
import Derived.Sort.OwnSorted
set_option linter.unusedVariables false
set_option linter.unusedSimpArgs false
namespace Go.Proofs.YtcccdlmngddalaaGreat
open Go.RowKit Go.Sort Go.Shelf
theorem ltA (x y : Ad) : ltOf Ad.cmp x y = decide (x.rk < y.rk) := by
  unfold ltOf
  by_cases h : x.rk < y.rk
  · rw [decide_eq_true h, decide_eq_true ((Ad.cmp_lt x y).2 h)]
  · rw [decide_eq_false h, decide_eq_false fun e => h ((Ad.cmp_lt x y).1 e)]
theorem swoA : SWO (ltOf Ad.cmp) where
  irrefl x := by rw [ltA]; simp
  trans x y z h1 h2 := by rw [ltA] at *; simp at *; omega
  ntrans x y z h1 h2 := by rw [ltA] at *; simp at *; omega
theorem flat_eq (l : List Ad) : flatK Ad.c 17 l.toArray = (cellsA l).toArray := by
  refine ext_get! (by simp [cellsA_len]) fun t ht => ?_
  have ht' : t < l.toArray.size * 17 := by simpa using ht
  have h1 : t < l.length * 17 := by simpa using ht'
  have hq : t / 17 < l.length := by omega
  rw [get_flatK _ _ _ _ ht']
  have hx : l[t / 17]? = some l[t / 17] := List.getElem?_eq_getElem hq
  have e1 : l.toArray[t / 17]! = l[t / 17] := by rw [getElem!_pos l.toArray (t / 17) (by simpa using hq)]; simp
  rw [e1]
  have h2 := cellsA_get hx
  have h3 : (cellsA l)[t]? = (l[t / 17]).c[t % 17]? := by
    rw [← h2, List.getElem?_take_of_lt (by omega), List.getElem?_drop]
    congr 1
    omega
  have h4 : t < (cellsA l).length := by rw [cellsA_len]; exact h1
  have h5 : t % 17 < (l[t / 17]).c.length := by rw [Ad.c_len]; omega
  rw [List.getElem?_eq_getElem h4, List.getElem?_eq_getElem h5] at h3
  injection h3 with h3
  rw [getElem!_pos (l[t / 17]).c (t % 17) h5, getElem!_pos (cellsA l).toArray t (by simpa using h4)]
  simpa using h3.symm
theorem enters_cmp : ∀ args w, (callFunc 81 args).run Tryz.prog w = .ok (.enter 81 args) w := enters_of Tryz.func81 (by kernel_rfl) rfl
theorem isAggA : ∀ w, (isAgg (Tryz.sortF_ren.t 24)).run Tryz.prog w = .ok true w := Tryz.isAgg36
theorem sizeA : ∀ w, (Go.sizeOf (Tryz.sortF_ren.t 24)).run Tryz.prog w = .ok 17 w := Tryz.sizeOf36
theorem take_putCellsA (cur : Array Value) (l : List Ad) (h : (cellsA l).length ≤ cur.size) : (putCells id 0 (flatK Ad.c 17 l.toArray) cur).toList.take (cellsA l).length = cellsA l := by
  rw [flat_eq]
  apply List.ext_getElem?
  intro j
  by_cases hj : j < (cellsA l).length
  · rw [List.getElem?_take_of_lt hj, Array.getElem?_toList]
    simp [putCells, hj, show j < cur.size by omega]
  · rw [List.getElem?_take_eq_none (by omega), List.getElem?_eq_none (by omega)]
theorem Sort_any {w : World} {f : Nat → Prop} {v : Value} {l : List Ad} (h : RowA w f v l) (hn : l.length ≤ 5000) :
    Calls Tryz.prog 120 #[v, .func (.func 81) #[] #[]] w fun e w' => e = .returned (.tuple #[]) ∧ ∃ l' : List Ad, l'.Perm l ∧ (l'.Pairwise fun a b => a.rk ≤ b.rk) ∧ RowA w' f v l' ∧ Mod (fun k => v.ownBlock = some k) w w' := by
  obtain ⟨⟨hl, h1⟩, h2⟩ := h
  rcases h1 with ⟨rfl, h0⟩ | ⟨g, cap, cur, rfl, hb, hg, hnc, hcm, hcs, ht⟩
  · refine (AnyF.slices_SortFunc_none Tryz.sortF none 0 _ w).mono ?_
    rintro e w' ⟨rfl, rfl⟩
    have hl0 : l = [] := List.eq_nil_of_length_eq_zero h0
    subst hl0
    exact ⟨rfl, [], .refl _, List.Pairwise.nil, RowA.nil _ _, Mod.refl _ _⟩
  · have hH : HoldsK Ad.c 17 w g 0 l.toArray := by
      unfold HoldsK
      rw [flat_eq]
      intro j hj
      have hj' : j < (cellsA l).length := by simpa using hj
      refine ⟨?_, by rw [Nat.zero_add]; exact freeOf hg j⟩
      rw [Nat.zero_add, cellOf hg, getElem!_pos (cellsA l).toArray j hj]
      have h3 : (cur.toList.take (l.length * 17))[j]? = (cellsA l)[j]? := by rw [ht]
      rw [List.getElem?_take_of_lt (by rw [← hl]; exact hj'), Array.getElem?_toList] at h3
      rw [h3, List.getElem?_eq_getElem hj']
      simp
    have hs : l.toArray.size = l.length := by simp
    have := AnyQ.slices_SortFunc Tryz.sortF 17 isAggA sizeA Ad.c Ad.c_len Ad.c_one Ad.cmp swoA 81 #[] g 0 cap l.toArray w enters_cmp (fun m os dk _ x y => Cmp_adg x y _) hH (lt_of_block hg) (by rw [hs]; omega)
    rw [hs] at this
    refine this.mono ?_
    rintro e w' ⟨rfl, d', n, os, hp, hsrt, rfl⟩
    have hds : d'.size = l.length := hp.1.trans hs
    obtain ⟨l', rfl⟩ : ∃ l' : List Ad, d' = l'.toArray := ⟨d'.toList, by simp⟩
    have hl' : l'.length = l.length := by simpa using hds
    have hc' : (cellsA l').length = l.length * 17 := by rw [cellsA_len, hl']
    refine ⟨rfl, l', ?_, ?_, ⟨⟨by rw [cellsA_len, hl'], .inr ⟨g, cap, putCells id 0 (flatK Ad.c 17 l'.toArray) cur, by rw [hl'], hb, ?_, by rw [hl']; exact hnc, hcm, by simp [putCells, hcs], ?_⟩⟩, fun x hx => h2 x (by simpa [Value.ownBlock] using hx)⟩, ?_⟩
    · have := hp.2.2
      rw [show (l'.toArray.extract 0 l.length) = l'.toArray by rw [← hl']; simp, show (l.toArray.extract 0 l.length) = l.toArray by simp] at this
      simpa using this
    · rw [List.pairwise_iff_getElem]
      intro i j h3 h4 hij
      have := hsrt i j (Nat.zero_le _) hij (by omega)
      rw [ltA, getElem!_pos l'.toArray j (by simpa using h4), getElem!_pos l'.toArray i (by simpa using h3)] at this
      simp at this
      exact this
    · unfold sortWorldK putRowK
      rw [heap_grow_old _ _ (by simpa using lt_of_block hg)]
      simp [putRow, mapBlock, Sort.ahead, Array.getElem?_modify, hg, onCells]
    · rw [hl', ← hc']
      exact take_putCellsA cur l' (by rw [hc', hcs]; exact Nat.mul_le_mul_right _ hnc)
    · unfold sortWorldK putRowK
      refine ⟨rfl, rfl, rfl, by simp, fun k hk hne => ?_⟩
      rw [heap_grow_old _ _ (by simpa using hk)]
      have : g ≠ k := fun e => hne (by rw [e]; rfl)
      simp [putRow, mapBlock, Sort.ahead, Array.getElem?_modify, this]
end Go.Proofs.YtcccdlmngddalaaGreat
