/- addr.Good, addr.Ip4: contracts, whatever the bytes are. -/
import Derived.Test.YtcccdlmngddalaaGreatAdrE
import Derived.Test.YtcccdlmngddalaaGreatReg
set_option linter.unusedVariables false
set_option linter.unusedSimpArgs false
namespace Go.Proofs.YtcccdlmngddalaaGreat
open Go.RowKit
def zeros (n : Nat) : List Int := List.replicate n 0
theorem ip4_any (a b c d : Int) (w : World) : Calls Tryz.prog 104 #[.int .u8 a, .int .u8 b, .int .u8 c, .int .u8 d] w fun e w' => e = .returned (.agg (adrC false (a :: b :: c :: d :: zeros 12)).toArray) ∧ Mod (fun _ => False) w w' := by
  go_enter Tryz.func104, Tryz.ntmps104
  go_wp2
  go_returns
  exact ⟨rfl, ((Mod.refl _ _).alloc _)⟩
def goodA (v : Bool) (r : List Int) : Bool := v || decide (r = zeros 12)
theorem goodA_eq (a b c d : Int) (r : List Int) : goodA false r = decide (false = false ∧ (a :: b :: c :: d :: r) = (a :: b :: c :: d :: zeros 12)) := by
  unfold goodA
  simp
set_option maxRecDepth 100000 in
theorem Good_any (v : Bool) (a b c d : Int) (r : List Int) (hr : r.length = 12) (w : World) : Calls Tryz.prog 55 #[.agg (adrC v (a :: b :: c :: d :: r)).toArray] w fun e w' => e = .returned (.bool (goodA v r)) ∧ Mod (fun _ => False) w w' := by
  have hA := rangeOf (allocNew w (.cells (adrC v (a :: b :: c :: d :: r)).toArray 36))
  have hm : Mod (fun _ => False) w (w.alloc (.cells (adrC v (a :: b :: c :: d :: r)).toArray 36)) := (Mod.refl _ _).alloc _
  go_enter Tryz.func55, Tryz.ntmps55
  obtain ⟨W0, hW0⟩ : ∃ W0, W0 = w.alloc (.cells (adrC v (a :: b :: c :: d :: r)).toArray 36) := ⟨_, rfl⟩
  obtain ⟨pb, hpb⟩ : ∃ pb, pb = w.heap.size := ⟨_, rfl⟩
  rw [← hW0, ← hpb] at hA
  rw [← hW0] at hm
  go_wp2_with fail
  rw [← hW0, ← hpb]
  have HA := Lib.hid hA
  have HM := Lib.hid hm
  clear hA hm hW0 hpb
  have hS : W0.drew.rangeAt pb 0 (adrC v (a :: b :: c :: d :: r)) ∧ W0.drew.cell? ⟨pb, 0, none⟩ = some (.bool v) ∧ W0.drew.cell? ⟨pb, 1, none⟩ = some (.int .u8 a) ∧ W0.drew.cell? ⟨pb, 2, none⟩ = some (.int .u8 b) ∧ W0.drew.cell? ⟨pb, 3, none⟩ = some (.int .u8 c) ∧ W0.drew.cell? ⟨pb, 4, none⟩ = some (.int .u8 d) :=
    ⟨HA.out, HA.out 0 _ rfl, HA.out 1 _ rfl, HA.out 2 _ rfl, HA.out 3 _ rfl, HA.out 4 _ rfl⟩
  cases v with
  | true =>
    refine wp_region_plan [] [(0, 0), (1, 1), (2, 0), (3, 1), (4, 0), (5, 0), (6, 1), (7, 0), (8, 0), (9, 1), (10, 0), (11, 0), (12, 1), (13, 0), (14, 0), (15, 1), (16, 2), (17, 0), (18, 0), (19, 0)] (fun w' : World => w'.rangeAt pb 0 (adrC true (a :: b :: c :: d :: r)) ∧ w'.cell? ⟨pb, 0, none⟩ = some (.bool true) ∧ w'.cell? ⟨pb, 1, none⟩ = some (.int .u8 a) ∧ w'.cell? ⟨pb, 2, none⟩ = some (.int .u8 b) ∧ w'.cell? ⟨pb, 3, none⟩ = some (.int .u8 c) ∧ w'.cell? ⟨pb, 4, none⟩ = some (.int .u8 d)) (by kernel_rfl) (by kernel_rfl) (fun d v c a w h => by first | (cases d <;> exact h) | exact HP d v c a w h) ?_
    repeat ((first | refine plan_skip rfl rfl ?_ | refine plan_pass2 rfl rfl ?_ | refine plan_pass3 rfl rfl ?_ | (refine plan_take (v := ?_) rfl rfl ?_ ?_; rotate_left; focus (intro w0; go_simp; try with_reducible rfl)) | (refine plan_held (v := ?_) rfl rfl hS ?_ ?_; rotate_left; focus (intro w0 hSw; (try dsimp only at hSw); go_split_ands; go_simp; try with_reducible rfl)) | refine plan_skip1 rfl rfl hS ?_); simp only [nA, nB, nC, Act.put, nD, nE, nF])
    refine plan_nil ?_
    go_wp2
    go_returns
    exact ⟨rfl, HM.out.drew⟩
  | false =>
    refine wp_region_plan [] [(0, 0), (1, 1), (2, 0), (3, 1), (4, 0), (5, 0), (6, 1), (7, 0), (8, 0), (9, 1), (10, 0), (11, 0), (12, 1), (13, 0), (14, 0), (15, 1), (16, 2), (17, 0), (18, 0), (19, 0)] (fun w' : World => w'.rangeAt pb 0 (adrC false (a :: b :: c :: d :: r)) ∧ w'.cell? ⟨pb, 0, none⟩ = some (.bool false) ∧ w'.cell? ⟨pb, 1, none⟩ = some (.int .u8 a) ∧ w'.cell? ⟨pb, 2, none⟩ = some (.int .u8 b) ∧ w'.cell? ⟨pb, 3, none⟩ = some (.int .u8 c) ∧ w'.cell? ⟨pb, 4, none⟩ = some (.int .u8 d)) (by kernel_rfl) (by kernel_rfl) (fun d v c a w h => by first | (cases d <;> exact h) | exact HP d v c a w h) ?_
    repeat ((first | refine plan_skip rfl rfl ?_ | refine plan_pass2 rfl rfl ?_ | refine plan_pass3 rfl rfl ?_ | (refine plan_take (v := ?_) rfl rfl ?_ ?_; rotate_left; focus (intro w0; go_simp; try with_reducible rfl)) | (refine plan_held (v := ?_) rfl rfl hS ?_ ?_; rotate_left; focus (intro w0 hSw; (try dsimp only at hSw); go_split_ands; go_simp; try with_reducible rfl)) | refine plan_skip1 rfl rfl hS ?_); simp only [nA, nB, nC, Act.put, nD, nE, nF])
    (refine plan_held (v := .agg (adrC false (a :: b :: c :: d :: r)).toArray) rfl rfl hS (fun w0 h0 => exec_load_mid _ _ rfl pb 0 rfl (adrC false (a :: b :: c :: d :: r)) _ w0 h0.1 Tryz.underlying36 rfl (by rw [adrSize]; simp [adrC, hr])) ?_; try simp only [nA, nB, nC, Act.put, nD, nE, nF])
    repeat ((first | refine plan_skip rfl rfl ?_ | refine plan_pass2 rfl rfl ?_ | refine plan_pass3 rfl rfl ?_ | (refine plan_take (v := ?_) rfl rfl ?_ ?_; rotate_left; focus (intro w0; go_simp; try with_reducible rfl)) | (refine plan_held (v := ?_) rfl rfl hS ?_ ?_; rotate_left; focus (intro w0 hSw; (try dsimp only at hSw); go_split_ands; go_simp; try with_reducible rfl)) | refine plan_skip1 rfl rfl hS ?_); simp only [nA, nB, nC, Act.put, nD, nE, nF])
    (refine plan_do rfl rfl fun K hK => ?_; try simp only [nA, nB, nC])
    go_simp
    refine (ip4_any a b c d _).mono ?_; rintro e W1 ⟨rfl, hm⟩
    have hS1 : W1.rangeAt pb 0 (adrC false (a :: b :: c :: d :: r)) ∧ W1.cell? ⟨pb, 0, none⟩ = some (.bool false) ∧ W1.cell? ⟨pb, 1, none⟩ = some (.int .u8 a) ∧ W1.cell? ⟨pb, 2, none⟩ = some (.int .u8 b) ∧ W1.cell? ⟨pb, 3, none⟩ = some (.int .u8 c) ∧ W1.cell? ⟨pb, 4, none⟩ = some (.int .u8 d) :=
      ⟨keepRange hm hS.1, hm.cell (fun f => f) hS.2.1, hm.cell (fun f => f) hS.2.2.1, hm.cell (fun f => f) hS.2.2.2.1, hm.cell (fun f => f) hS.2.2.2.2.1, hm.cell (fun f => f) hS.2.2.2.2.2⟩
    replace HM := Lib.hid (HM.out.drew.trans hm fun _ f => f.elim)
    refine hK _ _ hS1 ?_
    clear hK K hm hS
    try simp only [nA, nB, nC, Act.put, nD, nE, nF]
    repeat ((first | refine plan_skip rfl rfl ?_ | refine plan_pass2 rfl rfl ?_ | refine plan_pass3 rfl rfl ?_ | (refine plan_take (v := ?_) rfl rfl ?_ ?_; rotate_left; focus (intro w0; go_simp; try with_reducible rfl)) | (refine plan_held (v := ?_) rfl rfl hS1 ?_ ?_; rotate_left; focus (intro w0 hSw; (try dsimp only at hSw); go_split_ands; go_simp; try with_reducible rfl)) | refine plan_skip1 rfl rfl hS1 ?_); simp only [nA, nB, nC, Act.put, nD, nE, nF])
    refine plan_take (v := .bool (goodA false r)) rfl rfl ?_ ?_
    · intro w0
      rw [goodA_eq a b c d r]
      exact exec_eq_adr rfl false false (a :: b :: c :: d :: r) (a :: b :: c :: d :: zeros 12) (by simp [hr]) (by simp [zeros]) rfl rfl w0
    try simp only [nA, nB, nC, Act.put, nD, nE, nF]
    repeat ((first | refine plan_skip rfl rfl ?_ | refine plan_pass2 rfl rfl ?_ | refine plan_pass3 rfl rfl ?_ | (refine plan_take (v := ?_) rfl rfl ?_ ?_; rotate_left; focus (intro w0; go_simp; try with_reducible rfl)) | (refine plan_held (v := ?_) rfl rfl hS1 ?_ ?_; rotate_left; focus (intro w0 hSw; (try dsimp only at hSw); go_split_ands; go_simp; try with_reducible rfl)) | refine plan_skip1 rfl rfl hS1 ?_); simp only [nA, nB, nC, Act.put, nD, nE, nF])
    refine plan_nil ?_
    go_wp2
    go_returns
    exact ⟨rfl, HM.out⟩
end Go.Proofs.YtcccdlmngddalaaGreat
