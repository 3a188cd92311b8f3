/- The law TableNil holds: for every input it returns true, and its arguments read as they did. -/
import Derived.Test.YteekmlgcakhclaaRows
import Derived.WalkKit
import Derived.Test.YteekmlgcakhclaaSym
import Derived.Test.YteekmlgcakhclaaExt
import Derived.ProofKit
import Derived.OpenShut
import Derived.SizedLaws
import Derived.Lib.SmallJoins
import Derived.Deep.SlicePairs
namespace Go.Proofs.Yteekmlgcakhclaa.tableNil
open Go.ChangeShapes Go.WideShapes Go.ChangeAt Go.RowKit
set_option linter.unusedVariables false
set_option linter.unusedSimpArgs false
theorem own : ownKnob Try.prog.godebug = none := by kernel_rfl
theorem laidOut : laidOutB Try.prog = true := by kernel_rfl
theorem len20 : ∀ l : List Value, l.length = 20 → ∃ y0 y1 y2 y3 y4 y5 y6 y7 y8 y9 y10 y11 y12 y13 y14 y15 y16 y17 y18 y19, l = [y0, y1, y2, y3, y4, y5, y6, y7, y8, y9, y10, y11, y12, y13, y14, y15, y16, y17, y18, y19]
  | [y0, y1, y2, y3, y4, y5, y6, y7, y8, y9, y10, y11, y12, y13, y14, y15, y16, y17, y18, y19], _ => ⟨y0, y1, y2, y3, y4, y5, y6, y7, y8, y9, y10, y11, y12, y13, y14, y15, y16, y17, y18, y19, rfl⟩
set_option maxRecDepth 1000000 in
theorem walk (x0 x1 x2 x3 x4 x5 x6 x7 x8 x9 x10 x11 x12 x13 x14 x15 x16 x17 x18 x19 x20 : Value) (hx0 : x0.oneCell' = true) (hx1 : x1.oneCell' = true) (hx2 : x2.oneCell' = true) (hx3 : x3.oneCell' = true) (hx4 : x4.oneCell' = true) (hx5 : x5.oneCell' = true) (hx6 : x6.oneCell' = true) (hx7 : x7.oneCell' = true) (hx8 : x8.oneCell' = true) (hx9 : x9.oneCell' = true) (hx10 : x10.oneCell' = true) (hx11 : x11.oneCell' = true) (hx12 : x12.oneCell' = true) (hx13 : x13.oneCell' = true) (hx14 : x14.oneCell' = true) (hx15 : x15.oneCell' = true) (hx16 : x16.oneCell' = true) (hx17 : x17.oneCell' = true) (hx18 : x18.oneCell' = true) (hx19 : x19.oneCell' = true) (hx20 : x20.oneCell' = true) (W : World) : Calls Try.prog 5 #[x0, .agg #[x1, x2, x3, x4, x5, x6, x7, x8, x9, x10, x11, x12, x13, x14, x15, x16, x17, x18, x19, x20]] W fun e w' => e = .returned (.bool true) ∧ Mod (fun _ => False) W w' :=
  R.runs_eq (E := R.EX extL) (hE := ext_ok) (P := Try.prog) (n := 100) (k := 100) (us := #[x0, .agg #[x1, x2, x3, x4, x5, x6, x7, x8, x9, x10, x11, x12, x13, x14, x15, x16, x17, x18, x19, x20]]) (xs := [.v (.c (.x x0)), .v (.a [.x x1, .x x2, .x x3, .x x4, .x x5, .x x6, .x x7, .x x8, .x x9, .x x10, .x x11, .x x12, .x x13, .x x14, .x x15, .x x16, .x x17, .x x18, .x x19, .x x20])]) (y := .v (.c (.x (.bool true)))) (by kernel_rfl) (by kernel_rfl) (show R.LR _ _ _ from ⟨⟨rfl, hx0⟩, ⟨_, rfl, ⟨rfl, hx1⟩, ⟨rfl, hx2⟩, ⟨rfl, hx3⟩, ⟨rfl, hx4⟩, ⟨rfl, hx5⟩, ⟨rfl, hx6⟩, ⟨rfl, hx7⟩, ⟨rfl, hx8⟩, ⟨rfl, hx9⟩, ⟨rfl, hx10⟩, ⟨rfl, hx11⟩, ⟨rfl, hx12⟩, ⟨rfl, hx13⟩, ⟨rfl, hx14⟩, ⟨rfl, hx15⟩, ⟨rfl, hx16⟩, ⟨rfl, hx17⟩, ⟨rfl, hx18⟩, ⟨rfl, hx19⟩, ⟨rfl, hx20⟩, trivial⟩, trivial⟩) R.hu_true W
set_option maxRecDepth 100000 in
theorem lifted (os : Os) (started : os.Started) (H : Type) (enc : TypeId × Value → H) :
    ReturnsInHanded {} Try.checked os 5 .any (Rows.tableNilSpec.pre6 enc Try.prog Try.f5 Rows.tableNilRow.domain false) (Rows.tableNilSpec.post enc Try.prog Try.f5 false true false false) := by
  refine returnsInHanded_of_change (C := Try.checked) own started (by kernel_rfl) Try.func5
    (ChangeSpec.witness6 (enc := enc) (C := Try.checked) false ⟨#[], #[.int .u32 0, .agg #[.int .i64 0, .bool false, .int .u8 0, .int .u8 0, .int .u8 0, .int .u8 0, .int .u8 0, .int .u8 0, .int .u8 0, .int .u8 0, .int .u8 0, .int .u8 0, .int .u8 0, .int .u8 0, .int .u8 0, .int .u8 0, .int .u8 0, .int .u8 0, .int .i64 0, .slice none 0 0]], []⟩ 8 (by kernel_rfl) (by kernel_rfl) (by kernel_rfl) (by kernel_rfl)) ?_
  intro W base args ds gs before hval0 hW hcnd _
  have hval : ∀ (j : Nat) t v, Try.f5.params[j]? = some t → args[j]? = some v → Value.okWide Try.prog W .any base t v := hval0
  have hW' := hW
  obtain ⟨p, q, hA0, hV, rfl, hfz, hnd⟩ := hW
  have hA : DataW.TrodAll enc Try.prog W 0 (fun _ => true) true Try.f5.params.toList args.toList ds p := hA0
  rw [Try.params5] at hA hval
  obtain ⟨v0, vs0, d0, ds0, p0, q0, hargs, rfl, rfl, h0, r0⟩ := trodAll_cons hA
  obtain ⟨v1, vs1, d1, ds1, p1, q1, rfl, rfl, rfl, h1, r1⟩ := trodAll_cons r0
  obtain ⟨rfl, rfl, rfl⟩ := trodAll_nil r1
  obtain rfl : args = #[v0, v1] := by cases args; simp_all
  obtain ⟨rfl, rfl⟩ := trodVars_none hV
  clear hA0 hval0 hA
  simp only [List.append_nil] at hW'
  have t0 : ∀ (W' : World), Below W.heap.size W W' → DataW.Trod enc Try.prog W' 0 (fun b => decide (b < W.heap.size)) true 38 v0 d0 p0 :=
    fun W' hn => Below.trod laidOut (by kernel_rfl) (of_decide_eq_true (by kernel_rfl)) h0 hn (fun x hx => hW'.lt x (by simp [hx]))
  have t1 : ∀ (W' : World), Below W.heap.size W W' → DataW.Trod enc Try.prog W' 0 (fun b => decide (b < W.heap.size)) true 29 v1 d1 p1 :=
    fun W' hn => Below.trod laidOut (by kernel_rfl) (of_decide_eq_true (by kernel_rfl)) h1 hn (fun x hx => hW'.lt x (by simp [hx]))
  have k0 := hval 0 38 v0 rfl rfl
  have k1 := hval 1 29 v1 rfl rfl
  clear hval
  have ho0 := R.ok_leaf Try.underlying38 rfl k0
  obtain ⟨l1, rfl, hl1, ho1⟩ := R.ok_agg Try.underlying29 rfl k1
  obtain ⟨x1, x2, x3, x4, x5, x6, x7, x8, x9, x10, x11, x12, x13, x14, x15, x16, x17, x18, x19, x20, rfl⟩ := len20 l1 (hl1.trans (by kernel_rfl))
  refine (walk _ _ _ _ _ _ _ _ _ _ _ _ _ _ _ _ _ _ _ _ _ ho0 (ho1 _ (by simp)) (ho1 _ (by simp)) (ho1 _ (by simp)) (ho1 _ (by simp)) (ho1 _ (by simp)) (ho1 _ (by simp)) (ho1 _ (by simp)) (ho1 _ (by simp)) (ho1 _ (by simp)) (ho1 _ (by simp)) (ho1 _ (by simp)) (ho1 _ (by simp)) (ho1 _ (by simp)) (ho1 _ (by simp)) (ho1 _ (by simp)) (ho1 _ (by simp)) (ho1 _ (by simp)) (ho1 _ (by simp)) (ho1 _ (by simp)) (ho1 _ (by simp)) W).mono fun e W' ⟨he, hg⟩ => ?_
  subst he
  exact ⟨_, rfl, _, _, _, [], _, [], hW', (trodAll_cons_mk (shut_bool Try.underlying4 _) trodAll_mk0), (trodAll_cons_mk (t0 _ hg.below) (trodAll_cons_mk (t1 _ hg.below) trodAll_mk0)), rfl, hg.below.frame _, fun h => by cases h⟩

theorem over : Rows.tableNilRow.holds Try.pinned (OpenSpec.ofChange Rows.tableNilSpec) :=
  OpenClaim.holds_of_wide 5 Try.f5 rfl rfl rfl rfl rfl rfl rfl ⟨rfl, rfl, rfl, rfl, rfl⟩ rfl rfl rfl rfl rfl (by kernel_rfl) Try.func5 (by kernel_rfl)
    (of_decide_eq_true (by kernel_rfl)) (by unfold Func.isWrapper; first | (rw [if_pos (by decide +kernel)]; kernel_rfl) | (rw [if_neg (by decide +kernel)]; exact ⟨rfl, rfl⟩))
    (fun os started H enc _ => lifted os started H enc)

theorem proved : Rows.TableNilSaid :=
  over
#print axioms proved
end Go.Proofs.Yteekmlgcakhclaa.tableNil
