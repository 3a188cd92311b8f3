/- addr.Cmp: how the world has grown. (Printed by gen_gr.py.) -/
import Derived.Test.YtcccdlmngddalaaGreatAdrW
import Derived.Sort.Grow
set_option linter.unusedVariables false
set_option linter.unusedSimpArgs false
namespace Go.Proofs.YtcccdlmngddalaaGreat
open Go.RowKit Go.Sort
def Grew (w w' : World) : Prop := ∃ q os, w' = grow (w.drewN q) os
theorem Grew.refl (w : World) : Grew w w := ⟨0, #[], by rw [grow_empty]; rfl⟩
theorem Grew.drew {a w : World} (h : Grew a w) : Grew a w.drew := by
  obtain ⟨q, os, rfl⟩ := h
  exact ⟨q + 1, os, rfl⟩
theorem Grew.alloc {a w : World} (h : Grew a w) (o : Obj) : Grew a (w.alloc o) := by
  obtain ⟨q, os, rfl⟩ := h
  exact ⟨q, os ++ #[o], by rw [alloc_eq_grow, grow_grow]⟩
theorem Grew.trans {a b c : World} (h : Grew a b) (k : Grew b c) : Grew a c := by
  obtain ⟨q, os, rfl⟩ := h
  obtain ⟨q', os', rfl⟩ := k
  exact ⟨q + q', os ++ os', by rw [← grow_grow]; simp [grow, World.drewN, Nat.add_assoc]⟩
theorem Grew.mod {a b : World} (h : Grew a b) : Mod (fun _ => False) a b := by
  obtain ⟨q, os, rfl⟩ := h
  refine ⟨rfl, rfl, rfl, by simp [grow, World.drewN], fun k hk _ => ?_⟩
  simp [grow, World.drewN, Array.getElem?_append_left hk]
set_option maxRecDepth 100000 in
theorem bytes4g (a b c d : Int) (r : List Int) (w : World) : Calls Tryz.prog 123 #[.agg (adrC false (a :: b :: c :: d :: r)).toArray] w fun e w' => e = .returned (.string (strOfNums [a, b, c, d])) ∧ Grew w w' := by
  have c0 : (adrC false (a :: b :: c :: d :: r))[0]? = some (.bool false) := rfl
  have hcv := run_convert_bytes_arg (P := Tryz.prog) (w.alloc (.cells (adrC false (a :: b :: c :: d :: r)).toArray 36)) 159 5 Tryz.underlying159 Tryz.underlying5 w.heap.size 1 4 16 [a, b, c, d] rfl (fun i hi => by
    rw [cellOf (allocNew w _)]
    rcases (show i = 0 ∨ i = 1 ∨ i = 2 ∨ i = 3 by omega) with rfl | rfl | rfl | rfl <;> rfl) 9 Tryz.underlying9
  go_enter Tryz.func123, Tryz.ntmps123
  go_wp2
  go_returns
  exact ⟨rfl, (Grew.refl _).alloc _⟩
set_option maxRecDepth 100000 in
theorem Cmp4g (a b c d a' b' c' d' : Int) (r r' : List Int) (hr : r.length = 12) (hr' : r'.length = 12) (w : World) : Calls Tryz.prog 81 #[.agg (adrC false (a :: b :: c :: d :: r)).toArray, .agg (adrC false (a' :: b' :: c' :: d' :: r')).toArray] w fun e w' => e = .returned (.int .i64 (Lib.compareBytes (strOfNums [a, b, c, d]).data.toList (strOfNums [a', b', c', d']).data.toList)) ∧ Grew w w' := by
  have c0 : (adrC false (a :: b :: c :: d :: r))[0]? = some (.bool false) := rfl
  have c1 : (adrC false (a' :: b' :: c' :: d' :: r'))[0]? = some (.bool false) := rfl
  have hA := rangeOf (allocFar (x := .cells (adrC false (a' :: b' :: c' :: d' :: r')).toArray 36) (allocNew w (.cells (adrC false (a :: b :: c :: d :: r)).toArray 36)))
  have hB := rangeOf (allocNew (w.alloc (.cells (adrC false (a :: b :: c :: d :: r)).toArray 36)) (.cells (adrC false (a' :: b' :: c' :: d' :: r')).toArray 36))
  have hm : Grew w ((w.alloc (.cells (adrC false (a :: b :: c :: d :: r)).toArray 36)).alloc (.cells (adrC false (a' :: b' :: c' :: d' :: r')).toArray 36)) := ((Grew.refl _).alloc _).alloc _
  rw [show (w.alloc (.cells (adrC false (a :: b :: c :: d :: r)).toArray 36)).heap.size = w.heap.size + 1 by simp] at hB
  have HA := Lib.hid hA
  have HB := Lib.hid hB
  have HM := Lib.hid hm
  clear hA hB hm
  go_enter Tryz.func81, Tryz.ntmps81
  go_wp2_with fail
  obtain ⟨W0, hW0⟩ : ∃ W0, W0 = ((w.alloc (.cells (adrC false (a :: b :: c :: d :: r)).toArray 36)).alloc (.cells (adrC false (a' :: b' :: c' :: d' :: r')).toArray 36)) := ⟨_, rfl⟩
  obtain ⟨pc, hpc⟩ : ∃ pc, pc = w.heap.size + 1 := ⟨_, rfl⟩
  obtain ⟨pb, hpb⟩ : ∃ pb, pb = w.heap.size := ⟨_, rfl⟩
  have hA := HA.out
  have hB := HB.out
  have hm := HM.out
  clear HA HB HM
  rw [← hW0] at hA hB hm
  rw [← hpc] at hB
  rw [← hpb] at hA
  rw [← hW0]
  try rw [← hpc]
  try rw [← hpb]
  have HA := Lib.hid hA
  have HB := Lib.hid hB
  have HM := Lib.hid hm
  clear hA hB hm hW0 hpc hpb
  have hS : W0.drew.rangeAt pb 0 (adrC false (a :: b :: c :: d :: r)) ∧ W0.drew.rangeAt pc 0 (adrC false (a' :: b' :: c' :: d' :: r')) := ⟨HA.out, HB.out⟩
  refine wp_region_plan [] [(0, 1), (2, 1), (1, 2), (3, 2), (4, 2), (5, 0)] (fun w' : World => w'.rangeAt pb 0 (adrC false (a :: b :: c :: d :: r)) ∧ w'.rangeAt pc 0 (adrC false (a' :: b' :: c' :: d' :: r'))) (by kernel_rfl) (by kernel_rfl) (fun d v c a w h => by first | (cases d <;> exact h) | exact HP d v c a w h) ?_
  (refine plan_held (v := .agg (adrC false (a :: b :: c :: d :: r)).toArray) rfl rfl hS (fun w0 h0 => exec_load_mid _ _ rfl pb 0 rfl (adrC false (a :: b :: c :: d :: r)) _ w0 h0.1 Tryz.underlying36 rfl (by rw [adrSize]; simp [adrC, hr])) ?_; try simp only [nA, nB, nC, Act.put, nD, nE, nF])
  (refine plan_held (v := .agg (adrC false (a' :: b' :: c' :: d' :: r')).toArray) rfl rfl hS (fun w0 h0 => exec_load_mid _ _ rfl pc 0 rfl (adrC false (a' :: b' :: c' :: d' :: r')) _ w0 h0.2 Tryz.underlying36 rfl (by rw [adrSize]; simp [adrC, hr'])) ?_; try simp only [nA, nB, nC, Act.put, nD, nE, nF])
  (refine plan_do rfl rfl fun K hK => ?_; try simp only [nA, nB, nC])
  go_simp
  refine (bytes4g a b c d r _).mono ?_; rintro e W1 ⟨rfl, hm⟩
  have hS1 := And.intro (keepRange hm.mod hS.1) (keepRange hm.mod hS.2)
  replace HM := Lib.hid (HM.out.drew.trans hm)
  refine hK _ _ hS1 ?_
  clear hK K hm hS
  try simp only [nA, nB, nC, Act.put, nD, nE, nF]
  (refine plan_do rfl rfl fun K hK => ?_; try simp only [nA, nB, nC])
  go_simp
  refine (bytes4g a' b' c' d' r' _).mono ?_; rintro e W2 ⟨rfl, hm⟩
  have hS2 := And.intro (keepRange hm.mod hS1.1) (keepRange hm.mod hS1.2)
  replace HM := Lib.hid (HM.out.trans hm)
  refine hK _ _ hS2 ?_
  clear hK K hm hS1
  try simp only [nA, nB, nC, Act.put, nD, nE, nF]
  (refine plan_do rfl rfl fun K hK => ?_; try simp only [nA, nB, nC])
  go_simp
  refine (Compare_any _ _ _).mono ?_; rintro e W3 ⟨rfl, rfl⟩
  refine hK _ _ hS2 ?_
  clear hK K
  try simp only [nA, nB, nC, Act.put, nD, nE, nF]
  repeat ((first | refine plan_skip rfl rfl ?_ | refine plan_pass2 rfl rfl ?_ | refine plan_pass3 rfl rfl ?_ | (refine plan_take (v := ?_) rfl rfl ?_ ?_; rotate_left; focus (intro w0; go_simp; try with_reducible rfl)) | (refine plan_held (v := ?_) rfl rfl hS2 ?_ ?_; rotate_left; focus (intro w0 hSw; (try dsimp only at hSw); go_split_ands; go_simp; try with_reducible rfl)) | refine plan_skip1 rfl rfl hS2 ?_); simp only [nA, nB, nC, Act.put, nD, nE, nF])
  refine plan_nil ?_
  go_wp2
  go_returns
  exact ⟨rfl, HM.out⟩
set_option maxRecDepth 100000 in
theorem bytes6g (b : List Int) (hb : b.length = 16) (w : World) : Calls Tryz.prog 123 #[.agg (adrC true b).toArray] w fun e w' => e = .returned (.string (strOfNums b)) ∧ Grew w w' := by
  have c0 : (adrC true b)[0]? = some (.bool true) := rfl
  have hcv := run_convert_bytes_arg (P := Tryz.prog) (w.alloc (.cells (adrC true b).toArray 36)) 159 5 Tryz.underlying159 Tryz.underlying5 w.heap.size 1 16 16 b hb (fun i hi => by
    rw [cellOf (allocNew w _)]
    unfold adrC
    simp [show 1 + i = i + 1 by omega, hb, hi]) 9 Tryz.underlying9
  go_enter Tryz.func123, Tryz.ntmps123
  go_wp2
  go_returns
  exact ⟨rfl, (Grew.refl _).alloc _⟩
set_option maxRecDepth 100000 in
theorem Cmp6g (b b' : List Int) (hr : b.length = 16) (hr' : b'.length = 16) (w : World) : Calls Tryz.prog 81 #[.agg (adrC true b).toArray, .agg (adrC true b').toArray] w fun e w' => e = .returned (.int .i64 (Lib.compareBytes (strOfNums b).data.toList (strOfNums b').data.toList)) ∧ Grew w w' := by
  have c0 : (adrC true b)[0]? = some (.bool true) := rfl
  have c1 : (adrC true b')[0]? = some (.bool true) := rfl
  have hA := rangeOf (allocFar (x := .cells (adrC true b').toArray 36) (allocNew w (.cells (adrC true b).toArray 36)))
  have hB := rangeOf (allocNew (w.alloc (.cells (adrC true b).toArray 36)) (.cells (adrC true b').toArray 36))
  have hm : Grew w ((w.alloc (.cells (adrC true b).toArray 36)).alloc (.cells (adrC true b').toArray 36)) := ((Grew.refl _).alloc _).alloc _
  rw [show (w.alloc (.cells (adrC true b).toArray 36)).heap.size = w.heap.size + 1 by simp] at hB
  have HA := Lib.hid hA
  have HB := Lib.hid hB
  have HM := Lib.hid hm
  clear hA hB hm
  go_enter Tryz.func81, Tryz.ntmps81
  go_wp2_with fail
  obtain ⟨W0, hW0⟩ : ∃ W0, W0 = ((w.alloc (.cells (adrC true b).toArray 36)).alloc (.cells (adrC true b').toArray 36)) := ⟨_, rfl⟩
  obtain ⟨pc, hpc⟩ : ∃ pc, pc = w.heap.size + 1 := ⟨_, rfl⟩
  obtain ⟨pb, hpb⟩ : ∃ pb, pb = w.heap.size := ⟨_, rfl⟩
  have hA := HA.out
  have hB := HB.out
  have hm := HM.out
  clear HA HB HM
  rw [← hW0] at hA hB hm
  rw [← hpc] at hB
  rw [← hpb] at hA
  rw [← hW0]
  try rw [← hpc]
  try rw [← hpb]
  have HA := Lib.hid hA
  have HB := Lib.hid hB
  have HM := Lib.hid hm
  clear hA hB hm hW0 hpc hpb
  have hS : W0.drew.rangeAt pb 0 (adrC true b) ∧ W0.drew.rangeAt pc 0 (adrC true b') := ⟨HA.out, HB.out⟩
  refine wp_region_plan [] [(0, 1), (2, 1), (1, 2), (3, 2), (4, 2), (5, 0)] (fun w' : World => w'.rangeAt pb 0 (adrC true b) ∧ w'.rangeAt pc 0 (adrC true b')) (by kernel_rfl) (by kernel_rfl) (fun d v c a w h => by first | (cases d <;> exact h) | exact HP d v c a w h) ?_
  (refine plan_held (v := .agg (adrC true b).toArray) rfl rfl hS (fun w0 h0 => exec_load_mid _ _ rfl pb 0 rfl (adrC true b) _ w0 h0.1 Tryz.underlying36 rfl (by rw [adrSize]; simp [adrC, hr])) ?_; try simp only [nA, nB, nC, Act.put, nD, nE, nF])
  (refine plan_held (v := .agg (adrC true b').toArray) rfl rfl hS (fun w0 h0 => exec_load_mid _ _ rfl pc 0 rfl (adrC true b') _ w0 h0.2 Tryz.underlying36 rfl (by rw [adrSize]; simp [adrC, hr'])) ?_; try simp only [nA, nB, nC, Act.put, nD, nE, nF])
  (refine plan_do rfl rfl fun K hK => ?_; try simp only [nA, nB, nC])
  go_simp
  refine (bytes6g b hr _).mono ?_; rintro e W1 ⟨rfl, hm⟩
  have hS1 := And.intro (keepRange hm.mod hS.1) (keepRange hm.mod hS.2)
  replace HM := Lib.hid (HM.out.drew.trans hm)
  refine hK _ _ hS1 ?_
  clear hK K hm hS
  try simp only [nA, nB, nC, Act.put, nD, nE, nF]
  (refine plan_do rfl rfl fun K hK => ?_; try simp only [nA, nB, nC])
  go_simp
  refine (bytes6g b' hr' _).mono ?_; rintro e W2 ⟨rfl, hm⟩
  have hS2 := And.intro (keepRange hm.mod hS1.1) (keepRange hm.mod hS1.2)
  replace HM := Lib.hid (HM.out.trans hm)
  refine hK _ _ hS2 ?_
  clear hK K hm hS1
  try simp only [nA, nB, nC, Act.put, nD, nE, nF]
  (refine plan_do rfl rfl fun K hK => ?_; try simp only [nA, nB, nC])
  go_simp
  refine (Compare_any _ _ _).mono ?_; rintro e W3 ⟨rfl, rfl⟩
  refine hK _ _ hS2 ?_
  clear hK K
  try simp only [nA, nB, nC, Act.put, nD, nE, nF]
  repeat ((first | refine plan_skip rfl rfl ?_ | refine plan_pass2 rfl rfl ?_ | refine plan_pass3 rfl rfl ?_ | (refine plan_take (v := ?_) rfl rfl ?_ ?_; rotate_left; focus (intro w0; go_simp; try with_reducible rfl)) | (refine plan_held (v := ?_) rfl rfl hS2 ?_ ?_; rotate_left; focus (intro w0 hSw; (try dsimp only at hSw); go_split_ands; go_simp; try with_reducible rfl)) | refine plan_skip1 rfl rfl hS2 ?_); simp only [nA, nB, nC, Act.put, nD, nE, nF])
  refine plan_nil ?_
  go_wp2
  go_returns
  exact ⟨rfl, HM.out⟩
set_option maxRecDepth 100000 in
theorem Cmp_neg (v v' : Bool) (b b' : List Int) (h : v ≠ v') (w : World) : Calls Tryz.prog 81 #[.agg (adrC v b).toArray, .agg (adrC v' b').toArray] w fun e w' => e = .returned (.int .i64 (cond v' (-1) 1)) ∧ Grew w w' := by
  have c0 : (adrC v b)[0]? = some (.bool v) := rfl
  have c1 : (adrC v' b')[0]? = some (.bool v') := rfl
  have HM : Hid (Grew w ((w.alloc (.cells (adrC v b).toArray 36)).alloc (.cells (adrC v' b').toArray 36))) := Lib.hid (((Grew.refl _).alloc _).alloc _)
  go_enter Tryz.func81, Tryz.ntmps81
  cases v <;> cases v' <;> first | exact absurd rfl h | skip
  · go_wp2
    go_returns
    exact ⟨rfl, HM.out⟩
  · go_wp2
    go_returns
    exact ⟨rfl, HM.out⟩
set_option maxRecDepth 100000 in
theorem Cmp_anyg (v v' : Bool) (b b' : List Int) (hb : adrOk b) (hb' : adrOk b') (w : World) : Calls Tryz.prog 81 #[.agg (adrC v b).toArray, .agg (adrC v' b').toArray] w fun e w' => e = .returned (.int .i64 (cmpA v b v' b')) ∧ Grew w w' := by
  by_cases h : v = v'
  · subst h
    cases v with
    | true =>
      rw [show cmpA true b true b' = cmpL b b' by simp [cmpA], ← cmpBytes b b' hb.2 hb'.2 (by rw [hb.1, hb'.1])]
      exact Cmp6g b b' hb.1 hb'.1 w
    | false =>
      obtain ⟨x, y, z, u, r, rfl, hr⟩ := adr_four hb.1
      obtain ⟨x', y', z', u', r', rfl, hr'⟩ := adr_four hb'.1
      rw [show cmpA false (x :: y :: z :: u :: r) false (x' :: y' :: z' :: u' :: r') = cmpL [x, y, z, u] [x', y', z', u'] by simp [cmpA], ← cmpBytes [x, y, z, u] [x', y', z', u'] (fun a ha => hb.2 a (show a ∈ [x, y, z, u] ++ r from List.mem_append_left r ha)) (fun a ha => hb'.2 a (show a ∈ [x', y', z', u'] ++ r' from List.mem_append_left r' ha)) rfl]
      exact Cmp4g x y z u x' y' z' u' r r' hr hr' w
  · rw [show cmpA v b v' b' = cond v' (-1) 1 by unfold cmpA; rw [if_neg h]]
    exact Cmp_neg v v' b b' h w
end Go.Proofs.YtcccdlmngddalaaGreat
