import Derived.Test.YtjjfihndgejibaaSerial
namespace Go.Proofs.Ytjjfihndgejibaa
open Go.RowKit
theorem lives_any (w : World) : Calls Try.prog 12 #[] w fun e w' => e = .returned (.bool true) ∧ w = w' := by
  have l1 : Sr.gap 4294967295 1 = 2 := by decide
  have l2 : Sr.add 4294967295 2 = 1 := by decide
  have l3 : Sr.gap 4294967295 0 = 1 := by decide
  have l4 : Sr.gap 0 2147483648 = -2147483648 := by decide
  go_enter Try.func12, Try.ntmps12
  go_wp2_with (first | (go_at_call 7; refine (Gap_any _ _ _).mono ?_; rintro e w' ⟨rfl, rfl⟩) | (go_at_call 10; refine (Add_any _ _ (by omega) (by omega) _).mono ?_; rintro e w' ⟨rfl, rfl⟩) | (go_at_call 9; refine (Less_any _ _ _).mono ?_; rintro e w' ⟨rfl, rfl⟩))
  go_ret
  exact ⟨rfl, rfl⟩
end Go.Proofs.Ytjjfihndgejibaa
