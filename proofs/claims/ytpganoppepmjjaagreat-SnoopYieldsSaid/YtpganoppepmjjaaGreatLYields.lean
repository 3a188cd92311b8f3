/- The law SnoopYields holds: for every input it returns true, and its arguments read as they did. -/
import Derived.Test.YtpganoppepmjjaaGreatRows
import Derived.WalkKit
import Derived.Test.YtpganoppepmjjaaGreatYb0
import Derived.Test.YtpganoppepmjjaaGreatYb1
import Derived.Test.YtpganoppepmjjaaGreatYb2
import Derived.Test.YtpganoppepmjjaaGreatYb3
import Derived.Test.YtpganoppepmjjaaGreatYc4
import Derived.Test.YtpganoppepmjjaaGreatYc5
import Derived.Test.YtpganoppepmjjaaGreatYc6
import Derived.Test.YtpganoppepmjjaaGreatYc7
import Derived.Test.YtpganoppepmjjaaGreatYc8
import Derived.Test.YtpganoppepmjjaaGreatYc9
import Derived.Test.YtpganoppepmjjaaGreatYc10
import Derived.Test.YtpganoppepmjjaaGreatYc11
import Derived.Test.YtpganoppepmjjaaGreatYc12
import Derived.Test.YtpganoppepmjjaaGreatYc13
import Derived.Test.YtpganoppepmjjaaGreatYc14
import Derived.Test.YtpganoppepmjjaaGreatYc15
import Derived.Test.YtpganoppepmjjaaGreatYc16
import Derived.Test.YtpganoppepmjjaaGreatYc17
import Derived.Test.YtpganoppepmjjaaGreatYc18
import Derived.Test.YtpganoppepmjjaaGreatYc19
import Derived.ProofKit
import Derived.OpenShut
import Derived.SizedLaws
import Derived.Lib.SmallJoins
import Derived.Deep.SlicePairs
namespace Go.Proofs.YtpganoppepmjjaaGreat.snoopYields
open Go.ChangeShapes Go.WideShapes Go.ChangeAt Go.RowKit
set_option linter.unusedVariables false
set_option linter.unusedSimpArgs false
theorem own : ownKnob Tryz.prog.godebug = none := by kernel_rfl
theorem laidOut : laidOutB Tryz.prog = true := by kernel_rfl
theorem walk_0_false (n m : Int) (h0 : 0 ≤ m) (h1 : m < 256) (hn : n.tmod 2 = 0) (W : World) : Calls Tryz.prog 3 #[.int .u8 n, .int .u8 m, .bool false] W fun e w' => e = .returned (.bool true) ∧ Mod (fun _ => False) W w' := by
  have w : m.tmod 25 = m % 25 := Int.tmod_eq_emod_of_nonneg h0
  rcases (show m % 25 = 0 ∨ m % 25 = 1 ∨ m % 25 = 2 ∨ m % 25 = 3 ∨ m % 25 = 4 ∨ m % 25 = 5 ∨ m % 25 = 6 ∨ m % 25 = 7 ∨ m % 25 = 8 ∨ m % 25 = 9 ∨ m % 25 = 10 ∨ m % 25 = 11 ∨ m % 25 = 12 ∨ m % 25 = 13 ∨ m % 25 = 14 ∨ m % 25 = 15 ∨ m % 25 = 16 ∨ m % 25 = 17 ∨ m % 25 = 18 ∨ m % 25 = 19 ∨ m % 25 = 20 ∨ m % 25 = 21 ∨ m % 25 = 22 ∨ m % 25 = 23 ∨ m % 25 = 24 by omega) with h | h | h | h | h | h | h | h | h | h | h | h | h | h | h | h | h | h | h | h | h | h | h | h | h
  · exact R.yd_0_false_0 n m hn (w.trans h) W
  · exact R.yd_0_false_1 n m hn (w.trans h) W
  · exact R.yd_0_false_2 n m hn (w.trans h) W
  · exact R.yd_0_false_3 n m hn (w.trans h) W
  · exact R.yd_0_false_4 n m hn (w.trans h) W
  · exact R.yd_0_false_5 n m hn (w.trans h) W
  · exact R.yd_0_false_6 n m hn (w.trans h) W
  · exact R.yd_0_false_7 n m hn (w.trans h) W
  · exact R.yd_0_false_8 n m hn (w.trans h) W
  · exact R.yd_0_false_9 n m hn (w.trans h) W
  · exact R.yd_0_false_10 n m hn (w.trans h) W
  · exact R.yd_0_false_11 n m hn (w.trans h) W
  · exact R.yd_0_false_12 n m hn (w.trans h) W
  · exact R.yd_0_false_13 n m hn (w.trans h) W
  · exact R.yd_0_false_14 n m hn (w.trans h) W
  · exact R.yd_0_false_15 n m hn (w.trans h) W
  · exact R.yd_0_false_16 n m hn (w.trans h) W
  · exact R.yd_0_false_17 n m hn (w.trans h) W
  · exact R.yd_0_false_18 n m hn (w.trans h) W
  · exact R.yd_0_false_19 n m hn (w.trans h) W
  · exact R.yd_0_false_20 n m hn (w.trans h) W
  · exact R.yd_0_false_21 n m hn (w.trans h) W
  · exact R.yd_0_false_22 n m hn (w.trans h) W
  · exact R.yd_0_false_23 n m hn (w.trans h) W
  · exact R.yd_0_false_24 n m hn (w.trans h) W
theorem walk_0_true (n m : Int) (h0 : 0 ≤ m) (h1 : m < 256) (hn : n.tmod 2 = 0) (W : World) : Calls Tryz.prog 3 #[.int .u8 n, .int .u8 m, .bool true] W fun e w' => e = .returned (.bool true) ∧ Mod (fun _ => False) W w' := by
  have w : m.tmod 25 = m % 25 := Int.tmod_eq_emod_of_nonneg h0
  rcases (show m % 25 = 0 ∨ m % 25 = 1 ∨ m % 25 = 2 ∨ m % 25 = 3 ∨ m % 25 = 4 ∨ m % 25 = 5 ∨ m % 25 = 6 ∨ m % 25 = 7 ∨ m % 25 = 8 ∨ m % 25 = 9 ∨ m % 25 = 10 ∨ m % 25 = 11 ∨ m % 25 = 12 ∨ m % 25 = 13 ∨ m % 25 = 14 ∨ m % 25 = 15 ∨ m % 25 = 16 ∨ m % 25 = 17 ∨ m % 25 = 18 ∨ m % 25 = 19 ∨ m % 25 = 20 ∨ m % 25 = 21 ∨ m % 25 = 22 ∨ m % 25 = 23 ∨ m % 25 = 24 by omega) with h | h | h | h | h | h | h | h | h | h | h | h | h | h | h | h | h | h | h | h | h | h | h | h | h
  · exact R.yd_0_true_0 n m hn (w.trans h) W
  · exact R.yd_0_true_1 n m hn (w.trans h) W
  · exact R.yd_0_true_2 n m hn (w.trans h) W
  · exact R.yd_0_true_3 n m hn (w.trans h) W
  · exact R.yd_0_true_4 n m hn (w.trans h) W
  · exact R.yd_0_true_5 n m hn (w.trans h) W
  · exact R.yd_0_true_6 n m hn (w.trans h) W
  · exact R.yd_0_true_7 n m hn (w.trans h) W
  · exact R.yd_0_true_8 n m hn (w.trans h) W
  · exact R.yd_0_true_9 n m hn (w.trans h) W
  · exact R.yd_0_true_10 n m hn (w.trans h) W
  · exact R.yd_0_true_11 n m hn (w.trans h) W
  · exact R.yd_0_true_12 n m hn (w.trans h) W
  · exact R.yd_0_true_13 n m hn (w.trans h) W
  · exact R.yd_0_true_14 n m hn (w.trans h) W
  · exact R.yd_0_true_15 n m hn (w.trans h) W
  · exact R.yd_0_true_16 n m hn (w.trans h) W
  · exact R.yd_0_true_17 n m hn (w.trans h) W
  · exact R.yd_0_true_18 n m hn (w.trans h) W
  · exact R.yd_0_true_19 n m hn (w.trans h) W
  · exact R.yd_0_true_20 n m hn (w.trans h) W
  · exact R.yd_0_true_21 n m hn (w.trans h) W
  · exact R.yd_0_true_22 n m hn (w.trans h) W
  · exact R.yd_0_true_23 n m hn (w.trans h) W
  · exact R.yd_0_true_24 n m hn (w.trans h) W
theorem walk_1_false (n m : Int) (h0 : 0 ≤ m) (h1 : m < 256) (hn : n.tmod 2 = 1) (W : World) : Calls Tryz.prog 3 #[.int .u8 n, .int .u8 m, .bool false] W fun e w' => e = .returned (.bool true) ∧ Mod (fun _ => False) W w' := by
  have w : m.tmod 25 = m % 25 := Int.tmod_eq_emod_of_nonneg h0
  rcases (show m % 25 = 0 ∨ m % 25 = 1 ∨ m % 25 = 2 ∨ m % 25 = 3 ∨ m % 25 = 4 ∨ m % 25 = 5 ∨ m % 25 = 6 ∨ m % 25 = 7 ∨ m % 25 = 8 ∨ m % 25 = 9 ∨ m % 25 = 10 ∨ m % 25 = 11 ∨ m % 25 = 12 ∨ m % 25 = 13 ∨ m % 25 = 14 ∨ m % 25 = 15 ∨ m % 25 = 16 ∨ m % 25 = 17 ∨ m % 25 = 18 ∨ m % 25 = 19 ∨ m % 25 = 20 ∨ m % 25 = 21 ∨ m % 25 = 22 ∨ m % 25 = 23 ∨ m % 25 = 24 by omega) with h | h | h | h | h | h | h | h | h | h | h | h | h | h | h | h | h | h | h | h | h | h | h | h | h
  · exact R.yd_1_false_0 n m hn (w.trans h) W
  · exact R.yd_1_false_1 n m hn (w.trans h) W
  · exact R.yd_1_false_2 n m hn (w.trans h) W
  · exact R.yd_1_false_3 n m hn (w.trans h) W
  · exact R.yd_1_false_4 n m hn (w.trans h) W
  · exact R.yd_1_false_5 n m hn (w.trans h) W
  · exact R.yd_1_false_6 n m hn (w.trans h) W
  · exact R.yd_1_false_7 n m hn (w.trans h) W
  · exact R.yd_1_false_8 n m hn (w.trans h) W
  · exact R.yd_1_false_9 n m hn (w.trans h) W
  · exact R.yd_1_false_10 n m hn (w.trans h) W
  · exact R.yd_1_false_11 n m hn (w.trans h) W
  · exact R.yd_1_false_12 n m hn (w.trans h) W
  · exact R.yd_1_false_13 n m hn (w.trans h) W
  · exact R.yd_1_false_14 n m hn (w.trans h) W
  · exact R.yd_1_false_15 n m hn (w.trans h) W
  · exact R.yd_1_false_16 n m hn (w.trans h) W
  · exact R.yd_1_false_17 n m hn (w.trans h) W
  · exact R.yd_1_false_18 n m hn (w.trans h) W
  · exact R.yd_1_false_19 n m hn (w.trans h) W
  · exact R.yd_1_false_20 n m hn (w.trans h) W
  · exact R.yd_1_false_21 n m hn (w.trans h) W
  · exact R.yd_1_false_22 n m hn (w.trans h) W
  · exact R.yd_1_false_23 n m hn (w.trans h) W
  · exact R.yd_1_false_24 n m hn (w.trans h) W
theorem walk_1_true (n m : Int) (h0 : 0 ≤ m) (h1 : m < 256) (hn : n.tmod 2 = 1) (W : World) : Calls Tryz.prog 3 #[.int .u8 n, .int .u8 m, .bool true] W fun e w' => e = .returned (.bool true) ∧ Mod (fun _ => False) W w' := by
  have w : m.tmod 25 = m % 25 := Int.tmod_eq_emod_of_nonneg h0
  rcases (show m % 25 = 0 ∨ m % 25 = 1 ∨ m % 25 = 2 ∨ m % 25 = 3 ∨ m % 25 = 4 ∨ m % 25 = 5 ∨ m % 25 = 6 ∨ m % 25 = 7 ∨ m % 25 = 8 ∨ m % 25 = 9 ∨ m % 25 = 10 ∨ m % 25 = 11 ∨ m % 25 = 12 ∨ m % 25 = 13 ∨ m % 25 = 14 ∨ m % 25 = 15 ∨ m % 25 = 16 ∨ m % 25 = 17 ∨ m % 25 = 18 ∨ m % 25 = 19 ∨ m % 25 = 20 ∨ m % 25 = 21 ∨ m % 25 = 22 ∨ m % 25 = 23 ∨ m % 25 = 24 by omega) with h | h | h | h | h | h | h | h | h | h | h | h | h | h | h | h | h | h | h | h | h | h | h | h | h
  · exact R.yd_1_true_0 n m hn (w.trans h) W
  · exact R.yd_1_true_1 n m hn (w.trans h) W
  · exact R.yd_1_true_2 n m hn (w.trans h) W
  · exact R.yd_1_true_3 n m hn (w.trans h) W
  · exact R.yd_1_true_4 n m hn (w.trans h) W
  · exact R.yd_1_true_5 n m hn (w.trans h) W
  · exact R.yd_1_true_6 n m hn (w.trans h) W
  · exact R.yd_1_true_7 n m hn (w.trans h) W
  · exact R.yd_1_true_8 n m hn (w.trans h) W
  · exact R.yd_1_true_9 n m hn (w.trans h) W
  · exact R.yd_1_true_10 n m hn (w.trans h) W
  · exact R.yd_1_true_11 n m hn (w.trans h) W
  · exact R.yd_1_true_12 n m hn (w.trans h) W
  · exact R.yd_1_true_13 n m hn (w.trans h) W
  · exact R.yd_1_true_14 n m hn (w.trans h) W
  · exact R.yd_1_true_15 n m hn (w.trans h) W
  · exact R.yd_1_true_16 n m hn (w.trans h) W
  · exact R.yd_1_true_17 n m hn (w.trans h) W
  · exact R.yd_1_true_18 n m hn (w.trans h) W
  · exact R.yd_1_true_19 n m hn (w.trans h) W
  · exact R.yd_1_true_20 n m hn (w.trans h) W
  · exact R.yd_1_true_21 n m hn (w.trans h) W
  · exact R.yd_1_true_22 n m hn (w.trans h) W
  · exact R.yd_1_true_23 n m hn (w.trans h) W
  · exact R.yd_1_true_24 n m hn (w.trans h) W
theorem walk (n m : Int) (b : Bool) (n0 : 0 ≤ n) (n1 : n < 256) (h0 : 0 ≤ m) (h1 : m < 256) (W : World) : Calls Tryz.prog 3 #[.int .u8 n, .int .u8 m, .bool b] W fun e w' => e = .returned (.bool true) ∧ Mod (fun _ => False) W w' := by
  have w : n.tmod 2 = n % 2 := Int.tmod_eq_emod_of_nonneg n0
  rcases (show n % 2 = 0 ∨ n % 2 = 1 by omega) with h | h <;> cases b
  · exact walk_0_false n m h0 h1 (w.trans h) W
  · exact walk_0_true n m h0 h1 (w.trans h) W
  · exact walk_1_false n m h0 h1 (w.trans h) W
  · exact walk_1_true n m h0 h1 (w.trans h) W
theorem u8_bd {n : Int} (h : (Lit.int .u8 n).wf = true) : 0 ≤ n ∧ n < 256 := by
  simp [Lit.wf, IntKind.min, IntKind.max, IntKind.bits, IntKind.signed] at h
  omega
set_option maxRecDepth 100000 in
theorem lifted (os : Os) (started : os.Started) (H : Type) (enc : TypeId × Value → H) :
    ReturnsInHanded {} Tryz.checked os 3 .any (Rows.snoopYieldsSpec.pre6 enc Tryz.prog Tryz.f3 Rows.snoopYieldsRow.domain false) (Rows.snoopYieldsSpec.post enc Tryz.prog Tryz.f3 false true false false) := by
  refine returnsInHanded_of_change (C := Tryz.checked) own started (by kernel_rfl) Tryz.func3
    (ChangeSpec.witness6 (enc := enc) (C := Tryz.checked) false ⟨#[], #[.int .u8 0, .int .u8 0, .bool false], []⟩ 8 (by kernel_rfl) (by kernel_rfl) (by kernel_rfl) (by kernel_rfl)) ?_
  intro W base args ds gs before hval0 hW hcnd _
  have hval : ∀ (j : Nat) t v, Tryz.f3.params[j]? = some t → args[j]? = some v → Value.okWide Tryz.prog W .any base t v := hval0
  have hW' := hW
  obtain ⟨p, q, hA0, hV, rfl, hfz, hnd⟩ := hW
  have hA : DataW.TrodAll enc Tryz.prog W 0 (fun _ => true) true Tryz.f3.params.toList args.toList ds p := hA0
  rw [Tryz.params3] at hA hval
  obtain ⟨v0, vs0, d0, ds0, p0, q0, hargs, rfl, rfl, h0, r0⟩ := trodAll_cons hA
  obtain ⟨v1, vs1, d1, ds1, p1, q1, rfl, rfl, rfl, h1, r1⟩ := trodAll_cons r0
  obtain ⟨v2, vs2, d2, ds2, p2, q2, rfl, rfl, rfl, h2, r2⟩ := trodAll_cons r1
  obtain ⟨rfl, rfl, rfl⟩ := trodAll_nil r2
  obtain rfl : args = #[v0, v1, v2] := by cases args; simp_all
  obtain ⟨rfl, rfl⟩ := trodVars_none hV
  clear hA0 hval0 hA
  simp only [List.append_nil] at hW'
  have t0 : ∀ (W' : World), Below W.heap.size W W' → DataW.Trod enc Tryz.prog W' 0 (fun b => decide (b < W.heap.size)) true 5 v0 d0 p0 :=
    fun W' hn => Below.trod laidOut (by kernel_rfl) (of_decide_eq_true (by kernel_rfl)) h0 hn (fun x hx => hW'.lt x (by simp [hx]))
  have t1 : ∀ (W' : World), Below W.heap.size W W' → DataW.Trod enc Tryz.prog W' 0 (fun b => decide (b < W.heap.size)) true 5 v1 d1 p1 :=
    fun W' hn => Below.trod laidOut (by kernel_rfl) (of_decide_eq_true (by kernel_rfl)) h1 hn (fun x hx => hW'.lt x (by simp [hx]))
  have t2 : ∀ (W' : World), Below W.heap.size W W' → DataW.Trod enc Tryz.prog W' 0 (fun b => decide (b < W.heap.size)) true 4 v2 d2 p2 :=
    fun W' hn => Below.trod laidOut (by kernel_rfl) (of_decide_eq_true (by kernel_rfl)) h2 hn (fun x hx => hW'.lt x (by simp [hx]))
  have k0 := hval 0 5 v0 rfl rfl
  have k1 := hval 1 5 v1 rfl rfl
  have k2 := hval 2 4 v2 rfl rfl
  clear hval
  obtain ⟨a0, rfl, rfl, rfl, w0⟩ := open_int Tryz.underlying5 k0 h0
  obtain ⟨a1, rfl, rfl, rfl, w1⟩ := open_int Tryz.underlying5 k1 h1
  obtain ⟨b2, rfl, rfl, rfl⟩ := open_bool Tryz.underlying4 k2 h2
  refine (walk a0 a1 b2 (u8_bd w0).1 (u8_bd w0).2 (u8_bd w1).1 (u8_bd w1).2 W).mono fun e W' ⟨he, hg⟩ => ?_
  subst he
  exact ⟨_, rfl, _, _, _, [], _, [], hW', (trodAll_cons_mk (shut_bool Tryz.underlying4 _) trodAll_mk0), (trodAll_cons_mk (t0 _ hg.below) (trodAll_cons_mk (t1 _ hg.below) (trodAll_cons_mk (t2 _ hg.below) trodAll_mk0))), rfl, hg.below.frame _, fun h => by cases h⟩

set_option maxHeartbeats 4000000 in
theorem closed : joinedFacts Tryz.pinned.checked.prog 3 Tryz.f3 Rows.snoopYieldsSpec Rows.snoopYieldsRow = true := by
  unfold joinedFacts
  simp only [Bool.and_eq_true]
  repeat' (with_reducible apply And.intro)
  all_goals as_aux_lemma => kernel_rfl

theorem over : Rows.snoopYieldsRow.holds Tryz.pinned (OpenSpec.ofChange Rows.snoopYieldsSpec) :=
  OpenClaim.holds_of_wide 3 Tryz.f3 rfl rfl rfl rfl rfl rfl rfl ⟨rfl, rfl, rfl, rfl, rfl⟩ rfl rfl rfl rfl rfl (by kernel_rfl) Tryz.func3 closed
    (of_decide_eq_true (by kernel_rfl)) (by unfold Func.isWrapper; first | (rw [if_pos (by decide +kernel)]; kernel_rfl) | (rw [if_neg (by decide +kernel)]; exact ⟨rfl, rfl⟩))
    (fun os started H enc _ => lifted os started H enc)

theorem proved : Rows.SnoopYieldsSaid :=
  over
#print axioms proved
end Go.Proofs.YtpganoppepmjjaaGreat.snoopYields
