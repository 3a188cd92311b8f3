/- strings.Compare; addr.Cmp of two addresses of four bytes, whatever the bytes are. -/
import Derived.Test.YtcccdlmngddalaaGreatAdrB
import Derived.Test.YtcccdlmngddalaaGreatExt
import Derived.Lib.Bytealg
set_option linter.unusedVariables false
set_option linter.unusedSimpArgs false
namespace Go.Proofs.YtcccdlmngddalaaGreat
open Go.RowKit
set_option maxRecDepth 100000 in
theorem CmpString_any (a b : ByteArray) (w : World) : Calls Tryz.prog 145 #[.string a, .string b] w fun e w' => e = .returned (.int .i64 (Lib.compareBytes a.data.toList b.data.toList)) ∧ w = w' := by
  go_enter Tryz.func145, Tryz.ntmps145
  go_wp2
  obtain ⟨fn, f1, f2, f3, f4, f5⟩ := ext167
  rw [run_callFunc_extern f1 f2 f3 f4 (e := Extern.BytealgCompare.compare) f5, Lib.run_compareString]
  simp only [Result.andThen]
  rw [Oper.upon_value]
  go_wp2
  go_ret
  exact ⟨rfl, rfl⟩
set_option maxRecDepth 100000 in
theorem Compare_any (a b : ByteArray) (w : World) : Calls Tryz.prog 122 #[.string a, .string b] w fun e w' => e = .returned (.int .i64 (Lib.compareBytes a.data.toList b.data.toList)) ∧ w = w' := by
  go_enter Tryz.func122, Tryz.ntmps122
  go_wp2_with fail
  refine (CmpString_any _ _ _).mono ?_; rintro e w1 ⟨rfl, rfl⟩
  go_wp2
  go_ret
  exact ⟨rfl, rfl⟩
set_option maxRecDepth 100000 in
theorem Cmp4 (a b c d a' b' c' d' : Int) (r r' : List Int) (hr : r.length = 12) (hr' : r'.length = 12) (w : World) : Calls Tryz.prog 81 #[.agg (adrC false (a :: b :: c :: d :: r)).toArray, .agg (adrC false (a' :: b' :: c' :: d' :: r')).toArray] w fun e w' => e = .returned (.int .i64 (Lib.compareBytes (strOfNums [a, b, c, d]).data.toList (strOfNums [a', b', c', d']).data.toList)) ∧ Mod (fun _ => False) w w' := by
  have c0 : (adrC false (a :: b :: c :: d :: r))[0]? = some (.bool false) := rfl
  have c1 : (adrC false (a' :: b' :: c' :: d' :: r'))[0]? = some (.bool false) := rfl
  have hA := rangeOf (allocFar (x := .cells (adrC false (a' :: b' :: c' :: d' :: r')).toArray 36) (allocNew w (.cells (adrC false (a :: b :: c :: d :: r)).toArray 36)))
  have hB := rangeOf (allocNew (w.alloc (.cells (adrC false (a :: b :: c :: d :: r)).toArray 36)) (.cells (adrC false (a' :: b' :: c' :: d' :: r')).toArray 36))
  have hm : Mod (fun _ => False) w ((w.alloc (.cells (adrC false (a :: b :: c :: d :: r)).toArray 36)).alloc (.cells (adrC false (a' :: b' :: c' :: d' :: r')).toArray 36)) := ((Mod.refl _ _).alloc _).alloc _
  rw [show (w.alloc (.cells (adrC false (a :: b :: c :: d :: r)).toArray 36)).heap.size = w.heap.size + 1 by simp] at hB
  have HA := Lib.hid hA
  have HB := Lib.hid hB
  have HM := Lib.hid hm
  clear hA hB hm
  go_enter Tryz.func81, Tryz.ntmps81
  go_wp2_with fail
  obtain ⟨W0, hW0⟩ : ∃ W0, W0 = ((w.alloc (.cells (adrC false (a :: b :: c :: d :: r)).toArray 36)).alloc (.cells (adrC false (a' :: b' :: c' :: d' :: r')).toArray 36)) := ⟨_, rfl⟩
  obtain ⟨pc, hpc⟩ : ∃ pc, pc = w.heap.size + 1 := ⟨_, rfl⟩
  obtain ⟨pb, hpb⟩ : ∃ pb, pb = w.heap.size := ⟨_, rfl⟩
  have hA := HA.out
  have hB := HB.out
  have hm := HM.out
  clear HA HB HM
  rw [← hW0] at hA hB hm
  rw [← hpc] at hB
  rw [← hpb] at hA
  rw [← hW0]
  try rw [← hpc]
  try rw [← hpb]
  have HA := Lib.hid hA
  have HB := Lib.hid hB
  have HM := Lib.hid hm
  clear hA hB hm hW0 hpc hpb
  have hS : W0.drew.rangeAt pb 0 (adrC false (a :: b :: c :: d :: r)) ∧ W0.drew.rangeAt pc 0 (adrC false (a' :: b' :: c' :: d' :: r')) := ⟨HA.out, HB.out⟩
  refine wp_region_plan [] [(0, 1), (2, 1), (1, 2), (3, 2), (4, 2), (5, 0)] (fun w' : World => w'.rangeAt pb 0 (adrC false (a :: b :: c :: d :: r)) ∧ w'.rangeAt pc 0 (adrC false (a' :: b' :: c' :: d' :: r'))) (by kernel_rfl) (by kernel_rfl) (fun d v c a w h => by first | (cases d <;> exact h) | exact HP d v c a w h) ?_
  (refine plan_held (v := .agg (adrC false (a :: b :: c :: d :: r)).toArray) rfl rfl hS (fun w0 h0 => exec_load_mid _ _ rfl pb 0 rfl (adrC false (a :: b :: c :: d :: r)) _ w0 h0.1 Tryz.underlying36 rfl (by rw [adrSize]; simp [adrC, hr])) ?_; try simp only [nA, nB, nC, Act.put, nD, nE, nF])
  (refine plan_held (v := .agg (adrC false (a' :: b' :: c' :: d' :: r')).toArray) rfl rfl hS (fun w0 h0 => exec_load_mid _ _ rfl pc 0 rfl (adrC false (a' :: b' :: c' :: d' :: r')) _ w0 h0.2 Tryz.underlying36 rfl (by rw [adrSize]; simp [adrC, hr'])) ?_; try simp only [nA, nB, nC, Act.put, nD, nE, nF])
  (refine plan_do rfl rfl fun K hK => ?_; try simp only [nA, nB, nC])
  go_simp
  refine (bytes4 a b c d r _).mono ?_; rintro e W1 ⟨rfl, hm⟩
  have hS1 := And.intro (keepRange hm hS.1) (keepRange hm hS.2)
  replace HM := Lib.hid (HM.out.drew.trans hm fun _ f => f.elim)
  refine hK _ _ hS1 ?_
  clear hK K hm hS
  try simp only [nA, nB, nC, Act.put, nD, nE, nF]
  (refine plan_do rfl rfl fun K hK => ?_; try simp only [nA, nB, nC])
  go_simp
  refine (bytes4 a' b' c' d' r' _).mono ?_; rintro e W2 ⟨rfl, hm⟩
  have hS2 := And.intro (keepRange hm hS1.1) (keepRange hm hS1.2)
  replace HM := Lib.hid (HM.out.trans hm fun _ f => f.elim)
  refine hK _ _ hS2 ?_
  clear hK K hm hS1
  try simp only [nA, nB, nC, Act.put, nD, nE, nF]
  (refine plan_do rfl rfl fun K hK => ?_; try simp only [nA, nB, nC])
  go_simp
  refine (Compare_any _ _ _).mono ?_; rintro e W3 ⟨rfl, rfl⟩
  refine hK _ _ hS2 ?_
  clear hK K
  try simp only [nA, nB, nC, Act.put, nD, nE, nF]
  repeat ((first | refine plan_skip rfl rfl ?_ | refine plan_pass2 rfl rfl ?_ | refine plan_pass3 rfl rfl ?_ | (refine plan_take (v := ?_) rfl rfl ?_ ?_; rotate_left; focus (intro w0; go_simp; try with_reducible rfl)) | (refine plan_held (v := ?_) rfl rfl hS2 ?_ ?_; rotate_left; focus (intro w0 hSw; (try dsimp only at hSw); go_split_ands; go_simp; try with_reducible rfl)) | refine plan_skip1 rfl rfl hS2 ?_); simp only [nA, nB, nC, Act.put, nD, nE, nF])
  refine plan_nil ?_
  go_wp2
  go_returns
  exact ⟨rfl, HM.out⟩
end Go.Proofs.YtcccdlmngddalaaGreat
