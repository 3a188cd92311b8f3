/- The law LinkNil holds: for every input it returns true, and its arguments read as they did. -/
import Derived.Test.YtidkapanpieflaaRows
import Derived.WalkKit
import Derived.Test.YtidkapanpieflaaSym
import Derived.ProofKit
import Derived.OpenShut
import Derived.SizedLaws
import Derived.Lib.SmallJoins
import Derived.Deep.SlicePairs
namespace Go.Proofs.Ytidkapanpieflaa.linkNil
open Go.ChangeShapes Go.WideShapes Go.ChangeAt Go.RowKit
set_option linter.unusedVariables false
set_option linter.unusedSimpArgs false
theorem own : ownKnob Try.prog.godebug = none := by kernel_rfl
theorem laidOut : laidOutB Try.prog = true := by kernel_rfl
theorem len7 : ∀ l : List Value, l.length = 7 → ∃ y0 y1 y2 y3 y4 y5 y6, l = [y0, y1, y2, y3, y4, y5, y6]
  | [y0, y1, y2, y3, y4, y5, y6], _ => ⟨y0, y1, y2, y3, y4, y5, y6, rfl⟩
set_option maxRecDepth 1000000 in
theorem walk (x0 x1 x2 x3 x4 x5 x6 x7 : Value) (hx0 : x0.oneCell' = true) (hx1 : x1.oneCell' = true) (hx2 : x2.oneCell' = true) (hx3 : x3.oneCell' = true) (hx4 : x4.oneCell' = true) (hx5 : x5.oneCell' = true) (hx6 : x6.oneCell' = true) (hx7 : x7.oneCell' = true) (W : World) : Calls Try.prog 11 #[x0, .agg #[x1, x2, x3, x4, x5, x6, x7]] W fun e w' => e = .returned (.bool true) ∧ Mod (fun _ => False) W w' :=
  R.runs_eq (P := Try.prog) (n := 100) (k := 100) (us := #[x0, .agg #[x1, x2, x3, x4, x5, x6, x7]]) (xs := [.v (.c (.x x0)), .v (.a [.x x1, .x x2, .x x3, .x x4, .x x5, .x x6, .x x7])]) (y := .v (.c (.x (.bool true)))) (by kernel_rfl) (by kernel_rfl) (show R.LR _ _ _ from ⟨⟨rfl, hx0⟩, ⟨_, rfl, ⟨rfl, hx1⟩, ⟨rfl, hx2⟩, ⟨rfl, hx3⟩, ⟨rfl, hx4⟩, ⟨rfl, hx5⟩, ⟨rfl, hx6⟩, ⟨rfl, hx7⟩, trivial⟩, trivial⟩) R.hu_true W
set_option maxRecDepth 100000 in
theorem lifted (os : Os) (started : os.Started) (H : Type) (enc : TypeId × Value → H) :
    ReturnsInHanded {} Try.checked os 11 .any (Rows.linkNilSpec.pre6 enc Try.prog Try.f11 Rows.linkNilRow.domain false) (Rows.linkNilSpec.post enc Try.prog Try.f11 false true false false) := by
  refine returnsInHanded_of_change (C := Try.checked) own started (by kernel_rfl) Try.func11
    (ChangeSpec.witness6 (enc := enc) (C := Try.checked) false ⟨#[], #[.int .i64 0, .agg #[.int .i64 0, .bool false, .int .u32 0, .int .i64 0, .int .u32 0, .int .u32 0, .string ByteArray.empty]], []⟩ 8 (by kernel_rfl) (by kernel_rfl) (by kernel_rfl) (by kernel_rfl)) ?_
  intro W base args ds gs before hval0 hW hcnd _
  have hval : ∀ (j : Nat) t v, Try.f11.params[j]? = some t → args[j]? = some v → Value.okWide Try.prog W .any base t v := hval0
  have hW' := hW
  obtain ⟨p, q, hA0, hV, rfl, hfz, hnd⟩ := hW
  have hA : DataW.TrodAll enc Try.prog W 0 (fun _ => true) true Try.f11.params.toList args.toList ds p := hA0
  rw [Try.params11] at hA hval
  obtain ⟨v0, vs0, d0, ds0, p0, q0, hargs, rfl, rfl, h0, r0⟩ := trodAll_cons hA
  obtain ⟨v1, vs1, d1, ds1, p1, q1, rfl, rfl, rfl, h1, r1⟩ := trodAll_cons r0
  obtain ⟨rfl, rfl, rfl⟩ := trodAll_nil r1
  obtain rfl : args = #[v0, v1] := by cases args; simp_all
  obtain ⟨rfl, rfl⟩ := trodVars_none hV
  clear hA0 hval0 hA
  simp only [List.append_nil] at hW'
  have t0 : ∀ (W' : World), Below W.heap.size W W' → DataW.Trod enc Try.prog W' 0 (fun b => decide (b < W.heap.size)) true 3 v0 d0 p0 :=
    fun W' hn => Below.trod laidOut (by kernel_rfl) (of_decide_eq_true (by kernel_rfl)) h0 hn (fun x hx => hW'.lt x (by simp [hx]))
  have t1 : ∀ (W' : World), Below W.heap.size W W' → DataW.Trod enc Try.prog W' 0 (fun b => decide (b < W.heap.size)) true 65 v1 d1 p1 :=
    fun W' hn => Below.trod laidOut (by kernel_rfl) (of_decide_eq_true (by kernel_rfl)) h1 hn (fun x hx => hW'.lt x (by simp [hx]))
  have k0 := hval 0 3 v0 rfl rfl
  have k1 := hval 1 65 v1 rfl rfl
  clear hval
  have ho0 := R.ok_leaf Try.underlying3 rfl k0
  obtain ⟨l1, rfl, hl1, ho1⟩ := R.ok_agg Try.underlying65 rfl k1
  obtain ⟨x1, x2, x3, x4, x5, x6, x7, rfl⟩ := len7 l1 (hl1.trans (by kernel_rfl))
  refine (walk _ _ _ _ _ _ _ _ ho0 (ho1 _ (by simp)) (ho1 _ (by simp)) (ho1 _ (by simp)) (ho1 _ (by simp)) (ho1 _ (by simp)) (ho1 _ (by simp)) (ho1 _ (by simp)) W).mono fun e W' ⟨he, hg⟩ => ?_
  subst he
  exact ⟨_, rfl, _, _, _, [], _, [], hW', (trodAll_cons_mk (shut_bool Try.underlying4 _) trodAll_mk0), (trodAll_cons_mk (t0 _ hg.below) (trodAll_cons_mk (t1 _ hg.below) trodAll_mk0)), rfl, hg.below.frame _, fun h => by cases h⟩

theorem over : Rows.linkNilRow.holds Try.pinned (OpenSpec.ofChange Rows.linkNilSpec) :=
  OpenClaim.holds_of_wide 11 Try.f11 rfl rfl rfl rfl rfl rfl rfl ⟨rfl, rfl, rfl, rfl, rfl⟩ rfl rfl rfl rfl rfl (by kernel_rfl) Try.func11 (by kernel_rfl)
    (of_decide_eq_true (by kernel_rfl)) (by unfold Func.isWrapper; first | (rw [if_pos (by decide +kernel)]; kernel_rfl) | (rw [if_neg (by decide +kernel)]; exact ⟨rfl, rfl⟩))
    (fun os started H enc _ => lifted os started H enc)

theorem proved : Rows.LinkNilSaid :=
  over
#print axioms proved
end Go.Proofs.Ytidkapanpieflaa.linkNil
