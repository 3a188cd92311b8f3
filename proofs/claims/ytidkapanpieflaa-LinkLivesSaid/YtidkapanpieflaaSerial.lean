/- Contracts of the functions of package serial and of its reference, over integers, and their plain laws. -/
import Derived.Test.YtidkapanpieflaaMem
import Derived.WalkKit
import Derived.ProofKit
import Derived.OpenShut
import Derived.Lib.Hide
namespace Go.Proofs.Ytidkapanpieflaa
open Go.RowKit
set_option linter.unusedVariables false
/-- how far b stands behind a, on a ring of 2^32 -/
def Sr.gap (a b : Int) : Int := if (b - a) % 4294967296 < 2147483648 then (b - a) % 4294967296 else (b - a) % 4294967296 - 4294967296
def Sr.add (n k : Int) : Int := (n + k) % 4294967296
def Sr.ring (n : Int) : Int := n % 4294967296
def Sr.within (n f k : Int) : Bool := decide ((n - f) % 4294967296 < (if k < 0 then 0 else if 2147483647 < k then 2147483647 else k))
theorem Sr.gap_bd (a b : Int) : -2147483648 ≤ Sr.gap a b ∧ Sr.gap a b ≤ 2147483647 := by unfold Sr.gap; split <;> omega
theorem Sr.add_bd (n k : Int) : 0 ≤ Sr.add n k ∧ Sr.add n k < 4294967296 := by unfold Sr.add; omega
theorem Sr.ring_bd (n : Int) : 0 ≤ Sr.ring n ∧ Sr.ring n < 4294967296 := by unfold Sr.ring; omega
theorem ret_int {k : IntKind} {a b : Int} (h : a = b) : Ending.returned (.int k a) = .returned (.int k b) := by rw [h]
theorem ret_bool {a b : Bool} (h : a = b) : Ending.returned (.bool a) = .returned (.bool b) := by rw [h]

theorem u32_bd {a : Int} (h : (Lit.int .u32 a).wf = true) : 0 ≤ a ∧ a < 4294967296 := by simp [Lit.wf, IntKind.min, IntKind.max, IntKind.signed, IntKind.bits] at h; omega
theorem u16_bd {a : Int} (h : (Lit.int .u16 a).wf = true) : 0 ≤ a ∧ a < 65536 := by simp [Lit.wf, IntKind.min, IntKind.max, IntKind.signed, IntKind.bits] at h; omega
theorem i64_bd {a : Int} (h : (Lit.int .i64 a).wf = true) : -9223372036854775808 ≤ a ∧ a ≤ 9223372036854775807 := by simp [Lit.wf, IntKind.min, IntKind.max, IntKind.signed, IntKind.bits] at h; omega
theorem wrap64_bd (a : Int) : -9223372036854775808 ≤ wrap64 a ∧ wrap64 a ≤ 9223372036854775807 := by unfold wrap64; omega
theorem gap_any (a b : Int) (w : World) :
    Calls Try.prog 80 #[.int .u32 a, .int .u32 b] w fun e w' => e = .returned (.int .i64 (Sr.gap a b)) ∧ w = w' := by
  go_enter Try.func80, Try.ntmps80
  go_wp2
  go_ret
  refine ⟨ret_int ?_, rfl⟩
  unfold Sr.gap wrap64 wrap32
  omega
theorem Gap_any (a b : Int) (w : World) :
    Calls Try.prog 65 #[.int .u32 a, .int .u32 b] w fun e w' => e = .returned (.int .i64 (Sr.gap a b)) ∧ w = w' := by
  go_enter Try.func65, Try.ntmps65
  go_wp2_with (go_at_call 80; refine (gap_any _ _ _).mono ?_; rintro e w' ⟨rfl, rfl⟩)
  go_ret
  exact ⟨rfl, rfl⟩
theorem Less_any (a b : Int) (w : World) :
    Calls Try.prog 78 #[.int .u32 a, .int .u32 b] w fun e w' => e = .returned (.bool (decide (0 < Sr.gap a b))) ∧ w = w' := by
  go_enter Try.func78, Try.ntmps78
  go_wp2_with (go_at_call 80; refine (gap_any _ _ _).mono ?_; rintro e w' ⟨rfl, rfl⟩)
  go_ret
  exact ⟨rfl, rfl⟩
theorem Add_any (n k : Int) (hk : -9223372036854775808 ≤ k) (hk' : k ≤ 9223372036854775807) (w : World) :
    Calls Try.prog 68 #[.int .u32 n, .int .i64 k] w fun e w' => e = .returned (.int .u32 (Sr.add n k)) ∧ w = w' := by
  go_enter Try.func68, Try.ntmps68
  go_wp2
  go_ret
  refine ⟨ret_int ?_, rfl⟩
  unfold Sr.add
  omega
theorem Within_any (n f k : Int) (hk : -9223372036854775808 ≤ k) (hk' : k ≤ 9223372036854775807) (w : World) :
    Calls Try.prog 67 #[.int .u32 n, .int .u32 f, .int .i64 k] w fun e w' => e = .returned (.bool (Sr.within n f k)) ∧ w = w' := by
  go_enter Try.func67, Try.ntmps67
  go_wp2
  all_goals
    go_ret
    refine ⟨ret_bool ?_, rfl⟩
    unfold Sr.within
    congr 1
    apply propext
    split <;> (try split) <;> (try split at *) <;> omega
theorem tmod_ring (n : Int) : n.tmod 4294967296 = if n < 0 then (if n % 4294967296 = 0 then 0 else n % 4294967296 - 4294967296) else n % 4294967296 := by
  rw [Int.tmod_eq_emod]
  split <;> split <;> (try split) <;> omega
theorem ring_any (n : Int) (h : -9223372036854775808 ≤ n) (h' : n ≤ 9223372036854775807) (w : World) :
    Calls Try.prog 70 #[.int .i64 n] w fun e w' => e = .returned (.int .i64 (Sr.ring n)) ∧ w = w' := by
  go_enter Try.func70, Try.ntmps70
  go_wp2
  all_goals
    go_ret
    refine ⟨ret_int ?_, rfl⟩
    have ht := tmod_ring n
    unfold Sr.ring
    (try unfold wrap64)
    split at ht <;> (try split at ht) <;> omega
theorem refAdd_any (n k : Int) (hn : 0 ≤ n) (hn' : n < 4294967296) (hk : -9223372036854775808 ≤ k) (hk' : k ≤ 9223372036854775807) (w : World) :
    Calls Try.prog 29 #[.int .u32 n, .int .i64 k] w fun e w' => e = .returned (.int .u32 (Sr.add n k)) ∧ w = w' := by
  have hb := Sr.ring_bd k
  have hs := Sr.ring_bd (n + Sr.ring k)
  go_enter Try.func29, Try.ntmps29
  go_wp2_with fail
  refine (ring_any _ (by omega) (by omega) _).mono ?_; rintro e w' ⟨rfl, rfl⟩
  go_wp2_with fail
  refine (ring_any _ (by omega) (by omega) _).mono ?_; rintro e w' ⟨rfl, rfl⟩
  go_wp2_with fail
  go_ret
  refine ⟨ret_int ?_, rfl⟩
  unfold Sr.add Sr.ring
  omega
end Go.Proofs.Ytidkapanpieflaa
