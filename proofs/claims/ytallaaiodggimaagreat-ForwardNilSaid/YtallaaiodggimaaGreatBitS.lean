/- One of a number's bits, and a sum of words folded: by contract, for the run. -/
import Derived.Test.YtallaaiodggimaaGreatExt
import Derived.Test.YtallaaiodggimaaGreatSym
import Derived.Lib.Hide
import Derived.Handy
import Derived.Lib.VarintBits
namespace Go.Proofs.YtallaaiodggimaaGreat
open Go.RowKit
set_option linter.unusedVariables false
set_option linter.unusedSimpArgs false
theorem Bit_any (n k : Nat) (hn : n < 18446744073709551616) (hk : k ≤ 63) (w : World) :
    Calls Tryz.prog 182 #[.int .u64 (n : Int), .int .i64 (k : Int)] w fun e w' => e = .returned (.int .u64 ((n / 2 ^ k % 2 : Nat) : Int)) ∧ w = w' := by
  obtain ⟨r, hr⟩ : ∃ r : Nat, r = n / 2 ^ k % 2 := ⟨_, rfl⟩
  have HR := Lib.hid hr
  rw [← hr]
  clear hr
  go_enter Tryz.func182, Tryz.ntmps182
  have h1 : ¬ (k : Int) < 0 := by omega
  have h2 : ¬ (63 : Int) < (k : Int) := by omega
  go_wp2
  clear h1 h2
  go_loop [0, 1] (fun a b => ∃ j m d : Nat, j ≤ k ∧ m = n / 2 ^ j ∧ d = k - j ∧ a = .int .u64 (m : Int) ∧ b = .int .i64 (d : Int)) (fun _ b => (intOf b).toNat)
  case atStart => exact ⟨0, n, k, Nat.zero_le _, by simp, by omega, rfl, rfl⟩
  case round =>
    obtain ⟨j, m, d, hj, hm, hd, rfl, rfl⟩ := hrel
    have HM := Lib.hid hm
    have hmn : m ≤ n := by rw [hm]; exact Nat.div_le_self _ _
    clear hm
    by_cases hlt : 0 < d
    · obtain ⟨q, hq⟩ : ∃ q : Nat, q = m / 2 := ⟨_, rfl⟩
      obtain ⟨d', hd'⟩ : ∃ d' : Nat, d = d' + 1 := ⟨d - 1, by omega⟩
      have e1 : (m : Int) / 2 = (q : Int) := by omega
      have HQ := Lib.hid hq
      have HD := Lib.hid hd
      have HE := Lib.hid hd'
      have e2 : IntKind.i64.wrap ((d : Int) - 1) = (d' : Int) := by rw [hd']; rw [show ((d' + 1 : Nat) : Int) - 1 = (d' : Int) by omega]; exact IntWalk.i64_in _ (by omega)
      clear hq hd hd'
      go_wp2
      go_round
      case rel => exact ⟨j + 1, q, d', by have := HD.out; have := HE.out; omega, by rw [HQ.out, HM.out, Nat.div_div_eq_div_mul, Nat.pow_succ], by have := HD.out; have := HE.out; omega, by go_num, by go_num⟩
      case measure => simp [intOf]; have := HE.out; omega
    · obtain rfl : j = k := by omega
      have e1 : (m : Int) % 2 = (r : Int) := by
        have : m % 2 = r := by rw [HR.out, ← HM.out]
        omega
      have hz : (d : Int) = 0 := by omega
      clear hd
      go_wp2
      go_ret
      try exact ⟨rfl, rfl⟩
theorem u64_and65535 (x : Int) (h0 : 0 ≤ x) (h1 : x < 18446744073709551616) : bits .and .u64 x 65535 = x % 65536 := bits_mask .u64 64 (by decide) wraps_u64 16 (by decide) x h0 h1
theorem fold_any (n r : Nat) (hn : n ≤ 131070) (hr1 : r ≤ 65535 ∧ (n ≤ 65535 → r = n) ∧ (65535 < n → n = r + 65535)) (w : World) :
    Calls Tryz.prog 359 #[.int .u64 (n : Int)] w fun e w' => e = .returned (.int .u64 (r : Int)) ∧ w = w' := by
  have HR := Lib.hid hr1
  clear hr1
  go_enter Tryz.func359, Tryz.ntmps359
  go_wp2
  go_loop [0] (fun a => ∃ m : Nat, a = .int .u64 (m : Int) ∧ ((m = n ∧ 65535 < n) ∨ m = r)) (fun a => (intOf a).toNat)
  case atStart => exact ⟨n, rfl, by have := HR.out; omega⟩
  case round =>
    obtain ⟨m, rfl, hm⟩ := hrel
    have HM := Lib.hid hm
    clear hm
    by_cases hlt : 65535 < m
    · have e4 : (r : Int) = (m : Int) - 65535 ∧ m ≤ 131070 := by have := HR.out; have := HM.out; omega
      have e1 : bits .and .u64 (m : Int) 65535 = (m : Int) - 65536 := by
        have h := u64_and65535 (m : Int) (by omega) (by omega)
        omega
      have e2 : (m : Int) / 65536 = 1 := by omega
      clear hn
      have e3 : IntKind.u64.wrap ((m : Int) - 65536 + 1) = (r : Int) := by
        rw [show (m : Int) - 65536 + 1 = (r : Int) by omega]
        exact IntWalk.u64_in _ (by omega)
      have HE4 := Lib.hid e4
      clear e4
      go_wp2
      go_round
      case rel => exact ⟨r, by go_num, .inr rfl⟩
      case measure => have := HR.out; have := HE4.out; simp [intOf]; omega
    · have e0 : m = r := by have := HR.out; have := HM.out; omega
      clear HM
      subst e0
      go_wp2
      go_ret
      try exact ⟨rfl, rfl⟩
theorem bit_fn : ∃ r, R.fnOk Tryz.prog 182 = some r := Option.isSome_iff_exists.1 (by kernel_rfl)
theorem fold_fn : ∃ r, R.fnOk Tryz.prog 359 = some r := Option.isSome_iff_exists.1 (by kernel_rfl)
def sumBit (xs : List R.AV) (h : R.Hp) : Option (List (R.AV × R.Hp)) :=
  match xs with
  | [.v (.c (.x (.int .u64 (.ofNat n)))), .v (.c (.x (.int .i64 (.ofNat k))))] => cond (Nat.ble k 63 && Nat.blt n 18446744073709551616) (R.wNat (Nat.mod (Nat.div n (Nat.pow 2 k)) 2) fun r => some [(.v (.c (.x (.int .u64 (Int.ofNat r)))), h)]) none
  | _ => none
theorem sumBit_eq {xs : List R.AV} {h : R.Hp} {L : List (R.AV × R.Hp)} (hs : sumBit xs h = some L) : ∃ n k : Nat, xs = [.v (.c (.x (.int .u64 (n : Int)))), .v (.c (.x (.int .i64 (k : Int))))] ∧ k ≤ 63 ∧ n < 18446744073709551616 ∧ L = [(.v (.c (.x (.int .u64 ((n / 2 ^ k % 2 : Nat) : Int)))), h)] := by
  unfold sumBit at hs
  split at hs
  · rename_i n k
    cases hb : (Nat.ble k 63 && Nat.blt n 18446744073709551616) with
    | true =>
      rw [hb] at hs
      simp only [cond_true, R.wNat_eq, Option.some.injEq] at hs
      rw [Bool.and_eq_true] at hb
      exact ⟨n, k, rfl, Nat.le_of_ble_eq_true hb.1, Nat.lt_of_succ_le (Nat.le_of_ble_eq_true hb.2), hs.symm⟩
    | false => rw [hb] at hs; cases hs
  · cases hs
theorem foldR (n : Nat) (hn : n ≤ 131070) : (cond (Nat.ble n 65535) n (Nat.sub n 65535)) ≤ 65535 ∧ (n ≤ 65535 → (cond (Nat.ble n 65535) n (Nat.sub n 65535)) = n) ∧ (65535 < n → n = (cond (Nat.ble n 65535) n (Nat.sub n 65535)) + 65535) := by
  cases hb : Nat.ble n 65535 with
  | true =>
    have := Nat.le_of_ble_eq_true hb
    rw [cond_true]
    omega
  | false =>
    have : ¬ n ≤ 65535 := fun h => by rw [Nat.ble_eq_true_of_le h] at hb; cases hb
    rw [cond_false]
    have e : Nat.sub n 65535 = n - 65535 := rfl
    rw [e]
    omega
def sumFold (xs : List R.AV) (h : R.Hp) : Option (List (R.AV × R.Hp)) :=
  match xs with
  | [.v (.c (.x (.int .u64 (.ofNat n))))] => cond (Nat.ble n 131070) (R.wNat (cond (Nat.ble n 65535) n (Nat.sub n 65535)) fun r => some [(.v (.c (.x (.int .u64 (Int.ofNat r)))), h)]) none
  | _ => none
theorem sumFold_eq {xs : List R.AV} {h : R.Hp} {L : List (R.AV × R.Hp)} (hs : sumFold xs h = some L) : ∃ n r : Nat, xs = [.v (.c (.x (.int .u64 (n : Int))))] ∧ n ≤ 131070 ∧ (r ≤ 65535 ∧ (n ≤ 65535 → r = n) ∧ (65535 < n → n = r + 65535)) ∧ L = [(.v (.c (.x (.int .u64 (r : Int)))), h)] := by
  unfold sumFold at hs
  split at hs
  · rename_i n
    cases hb : Nat.ble n 131070 with
    | true =>
      rw [hb] at hs
      simp only [cond_true, R.wNat_eq, Option.some.injEq] at hs
      have hn := Nat.le_of_ble_eq_true hb
      exact ⟨n, _, rfl, hn, foldR n hn, hs.symm⟩
    | false => rw [hb] at hs; cases hs
  · cases hs
/-- with bits and folded sums by contract -/
def EXB : R.Env := ⟨extL, fun g xs h => cond (Nat.beq g 182) (sumBit xs h) (cond (Nat.beq g 359) (sumFold xs h) none)⟩
theorem exb_ok : R.EOk Tryz.prog EXB := by
  refine ⟨ext_ok.x, fun w0 g xs h L hs => ?_⟩
  have hs' : cond (Nat.beq g 182) (sumBit xs h) (cond (Nat.beq g 359) (sumFold xs h) none) = some L := hs
  cases hb : Nat.beq g 182 with
  | true =>
    rw [hb] at hs'
    obtain rfl := Nat.eq_of_beq_eq_true hb
    obtain ⟨n, k, rfl, hk, hn, rfl⟩ := sumBit_eq hs'
    refine ⟨bit_fn, fun i us w hl hR => ?_⟩
    obtain ⟨us⟩ := us
    match us, hl with
    | [a, b], ⟨h1, h2, _⟩ =>
      have e1 : a = .int .u64 (n : Int) := h1.1
      have e2 : b = .int .i64 (k : Int) := h2.1
      subst e1
      subst e2
      refine callsIn_wide.2 ((Bit_any n k hn hk w).mono fun e w' he => ?_)
      obtain ⟨rfl, rfl⟩ := he
      exact ⟨_, List.mem_singleton.2 rfl, i, _, rfl, R.Le.refl i, ⟨rfl, rfl⟩, hR⟩
  | false =>
    rw [hb] at hs'
    cases hb2 : Nat.beq g 359 with
    | false => rw [hb2] at hs'; cases hs'
    | true =>
      rw [hb2] at hs'
      obtain rfl := Nat.eq_of_beq_eq_true hb2
      obtain ⟨n, r, rfl, hn, hr, rfl⟩ := sumFold_eq hs'
      refine ⟨fold_fn, fun i us w hl hR => ?_⟩
      obtain ⟨us⟩ := us
      match us, hl with
      | [a], ⟨h1, _⟩ =>
        have e1 : a = .int .u64 (n : Int) := h1.1
        subst e1
        refine callsIn_wide.2 ((fold_any n r hn hr w).mono fun e w' he => ?_)
        obtain ⟨rfl, rfl⟩ := he
        exact ⟨_, List.mem_singleton.2 rfl, i, _, rfl, R.Le.refl i, ⟨rfl, rfl⟩, hR⟩
end Go.Proofs.YtallaaiodggimaaGreat
