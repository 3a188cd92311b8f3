/- The law GroupNil holds: for every input it returns true, and its arguments read as they did. -/
import Derived.Test.YtbklndjeankclaaGreatRows
import Derived.WalkKit
import Derived.Test.YtbklndjeankclaaGreatSym
import Derived.Test.YtbklndjeankclaaGreatExt
import Derived.ProofKit
import Derived.OpenShut
import Derived.SizedLaws
import Derived.Lib.SmallJoins
import Derived.Deep.SlicePairs
namespace Go.Proofs.YtbklndjeankclaaGreat.groupNil
open Go.ChangeShapes Go.WideShapes Go.ChangeAt Go.RowKit
set_option linter.unusedVariables false
set_option linter.unusedSimpArgs false
theorem own : ownKnob Tryz.prog.godebug = none := by kernel_rfl
theorem laidOut : laidOutB Tryz.prog = true := by kernel_rfl
theorem len17 : ∀ l : List Value, l.length = 17 → ∃ y0 y1 y2 y3 y4 y5 y6 y7 y8 y9 y10 y11 y12 y13 y14 y15 y16, l = [y0, y1, y2, y3, y4, y5, y6, y7, y8, y9, y10, y11, y12, y13, y14, y15, y16]
  | [y0, y1, y2, y3, y4, y5, y6, y7, y8, y9, y10, y11, y12, y13, y14, y15, y16], _ => ⟨y0, y1, y2, y3, y4, y5, y6, y7, y8, y9, y10, y11, y12, y13, y14, y15, y16, rfl⟩
set_option maxRecDepth 1000000 in
theorem walk (x0 x1 x2 x3 x4 x5 x6 x7 x8 x9 x10 x11 x12 x13 x14 x15 x16 x17 : Value) (hx0 : x0.oneCell' = true) (hx1 : x1.oneCell' = true) (hx2 : x2.oneCell' = true) (hx3 : x3.oneCell' = true) (hx4 : x4.oneCell' = true) (hx5 : x5.oneCell' = true) (hx6 : x6.oneCell' = true) (hx7 : x7.oneCell' = true) (hx8 : x8.oneCell' = true) (hx9 : x9.oneCell' = true) (hx10 : x10.oneCell' = true) (hx11 : x11.oneCell' = true) (hx12 : x12.oneCell' = true) (hx13 : x13.oneCell' = true) (hx14 : x14.oneCell' = true) (hx15 : x15.oneCell' = true) (hx16 : x16.oneCell' = true) (hx17 : x17.oneCell' = true) (W : World) : Calls Tryz.prog 4 #[x0, .agg #[x1, x2, x3, x4, x5, x6, x7, x8, x9, x10, x11, x12, x13, x14, x15, x16, x17]] W fun e w' => e = .returned (.bool true) ∧ Mod (fun _ => False) W w' :=
  R.runs_eq (E := R.EX extL) (hE := ext_ok) (P := Tryz.prog) (n := 300) (k := 300) (us := #[x0, .agg #[x1, x2, x3, x4, x5, x6, x7, x8, x9, x10, x11, x12, x13, x14, x15, x16, x17]]) (xs := [.v (.c (.x x0)), .v (.a [.x x1, .x x2, .x x3, .x x4, .x x5, .x x6, .x x7, .x x8, .x x9, .x x10, .x x11, .x x12, .x x13, .x x14, .x x15, .x x16, .x x17])]) (y := .v (.c (.x (.bool true)))) (by kernel_rfl) (by kernel_rfl) (show R.LR _ _ _ from ⟨⟨rfl, hx0⟩, ⟨_, rfl, ⟨rfl, hx1⟩, ⟨rfl, hx2⟩, ⟨rfl, hx3⟩, ⟨rfl, hx4⟩, ⟨rfl, hx5⟩, ⟨rfl, hx6⟩, ⟨rfl, hx7⟩, ⟨rfl, hx8⟩, ⟨rfl, hx9⟩, ⟨rfl, hx10⟩, ⟨rfl, hx11⟩, ⟨rfl, hx12⟩, ⟨rfl, hx13⟩, ⟨rfl, hx14⟩, ⟨rfl, hx15⟩, ⟨rfl, hx16⟩, ⟨rfl, hx17⟩, trivial⟩, trivial⟩) R.hu_true W
set_option maxRecDepth 100000 in
theorem lifted (os : Os) (started : os.Started) (H : Type) (enc : TypeId × Value → H) :
    ReturnsInHanded {} Tryz.checked os 4 .any (Rows.groupNilSpec.pre6 enc Tryz.prog Tryz.f4 Rows.groupNilRow.domain false) (Rows.groupNilSpec.post enc Tryz.prog Tryz.f4 false true false false) := by
  refine returnsInHanded_of_change (C := Tryz.checked) own started (by kernel_rfl) Tryz.func4
    (ChangeSpec.witness6 (enc := enc) (C := Tryz.checked) false ⟨#[], #[.int .i64 0, .agg #[.bool false, .int .u8 0, .int .u8 0, .int .u8 0, .int .u8 0, .int .u8 0, .int .u8 0, .int .u8 0, .int .u8 0, .int .u8 0, .int .u8 0, .int .u8 0, .int .u8 0, .int .u8 0, .int .u8 0, .int .u8 0, .int .u8 0]], []⟩ 8 (by kernel_rfl) (by kernel_rfl) (by kernel_rfl) (by kernel_rfl)) ?_
  intro W base args ds gs before hval0 hW hcnd _
  have hval : ∀ (j : Nat) t v, Tryz.f4.params[j]? = some t → args[j]? = some v → Value.okWide Tryz.prog W .any base t v := hval0
  have hW' := hW
  obtain ⟨p, q, hA0, hV, rfl, hfz, hnd⟩ := hW
  have hA : DataW.TrodAll enc Tryz.prog W 0 (fun _ => true) true Tryz.f4.params.toList args.toList ds p := hA0
  rw [Tryz.params4] at hA hval
  obtain ⟨v0, vs0, d0, ds0, p0, q0, hargs, rfl, rfl, h0, r0⟩ := trodAll_cons hA
  obtain ⟨v1, vs1, d1, ds1, p1, q1, rfl, rfl, rfl, h1, r1⟩ := trodAll_cons r0
  obtain ⟨rfl, rfl, rfl⟩ := trodAll_nil r1
  obtain rfl : args = #[v0, v1] := by cases args; simp_all
  obtain ⟨rfl, rfl⟩ := trodVars_none hV
  clear hA0 hval0 hA
  simp only [List.append_nil] at hW'
  have t0 : ∀ (W' : World), Below W.heap.size W W' → DataW.Trod enc Tryz.prog W' 0 (fun b => decide (b < W.heap.size)) true 3 v0 d0 p0 :=
    fun W' hn => Below.trod laidOut (by kernel_rfl) (of_decide_eq_true (by kernel_rfl)) h0 hn (fun x hx => hW'.lt x (by simp [hx]))
  have t1 : ∀ (W' : World), Below W.heap.size W W' → DataW.Trod enc Tryz.prog W' 0 (fun b => decide (b < W.heap.size)) true 36 v1 d1 p1 :=
    fun W' hn => Below.trod laidOut (by kernel_rfl) (of_decide_eq_true (by kernel_rfl)) h1 hn (fun x hx => hW'.lt x (by simp [hx]))
  have k0 := hval 0 3 v0 rfl rfl
  have k1 := hval 1 36 v1 rfl rfl
  clear hval
  have ho0 := R.ok_leaf Tryz.underlying3 rfl k0
  obtain ⟨l1, rfl, hl1, ho1⟩ := R.ok_agg Tryz.underlying36 rfl k1
  obtain ⟨x1, x2, x3, x4, x5, x6, x7, x8, x9, x10, x11, x12, x13, x14, x15, x16, x17, rfl⟩ := len17 l1 (hl1.trans (by kernel_rfl))
  refine (walk _ _ _ _ _ _ _ _ _ _ _ _ _ _ _ _ _ _ ho0 (ho1 _ (by simp)) (ho1 _ (by simp)) (ho1 _ (by simp)) (ho1 _ (by simp)) (ho1 _ (by simp)) (ho1 _ (by simp)) (ho1 _ (by simp)) (ho1 _ (by simp)) (ho1 _ (by simp)) (ho1 _ (by simp)) (ho1 _ (by simp)) (ho1 _ (by simp)) (ho1 _ (by simp)) (ho1 _ (by simp)) (ho1 _ (by simp)) (ho1 _ (by simp)) (ho1 _ (by simp)) W).mono fun e W' ⟨he, hg⟩ => ?_
  subst he
  exact ⟨_, rfl, _, _, _, [], _, [], hW', (trodAll_cons_mk (shut_bool Tryz.underlying4 _) trodAll_mk0), (trodAll_cons_mk (t0 _ hg.below) (trodAll_cons_mk (t1 _ hg.below) trodAll_mk0)), rfl, hg.below.frame _, fun h => by cases h⟩

theorem over : Rows.groupNilRow.holds Tryz.pinned (OpenSpec.ofChange Rows.groupNilSpec) :=
  OpenClaim.holds_of_wide 4 Tryz.f4 rfl rfl rfl rfl rfl rfl rfl ⟨rfl, rfl, rfl, rfl, rfl⟩ rfl rfl rfl rfl rfl (by kernel_rfl) Tryz.func4 (by kernel_rfl)
    (of_decide_eq_true (by kernel_rfl)) (by unfold Func.isWrapper; first | (rw [if_pos (by decide +kernel)]; kernel_rfl) | (rw [if_neg (by decide +kernel)]; exact ⟨rfl, rfl⟩))
    (fun os started H enc _ => lifted os started H enc)

theorem proved : Rows.GroupNilSaid :=
  over
#print axioms proved
end Go.Proofs.YtbklndjeankclaaGreat.groupNil
