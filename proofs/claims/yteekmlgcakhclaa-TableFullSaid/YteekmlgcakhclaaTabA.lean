/- Rows of a table as cells, and what table.good asks of them (the rows of TableFull). -/
import Derived.Test.YteekmlgcakhclaaReg
import Derived.Test.YteekmlgcakhclaaRng
import Derived.Test.YteekmlgcakhclaaExt
import Derived.Test.YteekmlgcakhclaaSym
import Derived.Lib.Hide
import Derived.Handy
namespace Go.Proofs.Yteekmlgcakhclaa
open Go.RowKit
set_option linter.unusedVariables false
set_option linter.unusedSimpArgs false
theorem LRx {i : R.Inj} : ∀ (l : List Value), (∀ u ∈ l, u.oneCell' = true) → R.LR (R.CR i) (l.map R.Cel.x) l
  | [], _ => trivial
  | a :: l, h => ⟨⟨rfl, h a (by simp)⟩, LRx l fun u hu => h u (by simp [hu])⟩
theorem LRx' {i : R.Inj} : ∀ (l m : List Value), R.LR (R.CR i) (l.map R.Cel.x) m → m = l
  | [], [], _ => rfl
  | [], _ :: _, h => h.elim
  | _ :: _, [], h => h.elim
  | a :: l, b :: m, ⟨h1, h2⟩ => by rw [h1.1, LRx' l m h2]
theorem hu_x (u : Value) : ∀ i v, R.AR i (.v (.c (.x u))) v → v = u := fun _ _ h => h.1
theorem hu_a (l : List Value) : ∀ i v, R.AR i (.v (.a (l.map .x))) v → v = .agg l.toArray := fun _ _ ⟨⟨us⟩, e, h⟩ => by
  rw [e]
  have := LRx' l us h
  rw [this]
set_option maxRecDepth 1000000 in
theorem four_1 (w : World) : Calls Try.prog 6 #[.int .u8 1] w fun e w' => e = .returned (.agg #[.bool false, .int .u8 239, .int .u8 1, .int .u8 1, .int .u8 1, .int .u8 0, .int .u8 0, .int .u8 0, .int .u8 0, .int .u8 0, .int .u8 0, .int .u8 0, .int .u8 0, .int .u8 0, .int .u8 0, .int .u8 0, .int .u8 0]) ∧ Mod (fun _ => False) w w' :=
  R.runs_eq (E := R.EX extL) (hE := ext_ok) (P := Try.prog) (n := 1000) (k := 100) (us := #[.int .u8 1]) (xs := [.v (.c (.x (.int .u8 1)))]) (y := .v (.a [.x (.bool false), .x (.int .u8 239), .x (.int .u8 1), .x (.int .u8 1), .x (.int .u8 1), .x (.int .u8 0), .x (.int .u8 0), .x (.int .u8 0), .x (.int .u8 0), .x (.int .u8 0), .x (.int .u8 0), .x (.int .u8 0), .x (.int .u8 0), .x (.int .u8 0), .x (.int .u8 0), .x (.int .u8 0), .x (.int .u8 0)])) (by kernel_rfl) (by kernel_rfl) (show R.LR _ _ _ from ⟨⟨rfl, rfl⟩, trivial⟩) (hu_a [.bool false, .int .u8 239, .int .u8 1, .int .u8 1, .int .u8 1, .int .u8 0, .int .u8 0, .int .u8 0, .int .u8 0, .int .u8 0, .int .u8 0, .int .u8 0, .int .u8 0, .int .u8 0, .int .u8 0, .int .u8 0, .int .u8 0]) w
set_option maxRecDepth 1000000 in
theorem aGood_1 (w : World) : Calls Try.prog 54 #[.agg #[.bool false, .int .u8 239, .int .u8 1, .int .u8 1, .int .u8 1, .int .u8 0, .int .u8 0, .int .u8 0, .int .u8 0, .int .u8 0, .int .u8 0, .int .u8 0, .int .u8 0, .int .u8 0, .int .u8 0, .int .u8 0, .int .u8 0]] w fun e w' => e = .returned (.bool true) ∧ Mod (fun _ => False) w w' :=
  R.runs_eq (E := R.EX extL) (hE := ext_ok) (P := Try.prog) (n := 1000) (k := 100) (us := #[.agg #[.bool false, .int .u8 239, .int .u8 1, .int .u8 1, .int .u8 1, .int .u8 0, .int .u8 0, .int .u8 0, .int .u8 0, .int .u8 0, .int .u8 0, .int .u8 0, .int .u8 0, .int .u8 0, .int .u8 0, .int .u8 0, .int .u8 0]]) (xs := [.v (.a [.x (.bool false), .x (.int .u8 239), .x (.int .u8 1), .x (.int .u8 1), .x (.int .u8 1), .x (.int .u8 0), .x (.int .u8 0), .x (.int .u8 0), .x (.int .u8 0), .x (.int .u8 0), .x (.int .u8 0), .x (.int .u8 0), .x (.int .u8 0), .x (.int .u8 0), .x (.int .u8 0), .x (.int .u8 0), .x (.int .u8 0)])]) (y := .v (.c (.x (.bool true)))) (by kernel_rfl) (by kernel_rfl) (show R.LR _ _ _ from ⟨⟨_, rfl, ⟨rfl, rfl⟩, ⟨rfl, rfl⟩, ⟨rfl, rfl⟩, ⟨rfl, rfl⟩, ⟨rfl, rfl⟩, ⟨rfl, rfl⟩, ⟨rfl, rfl⟩, ⟨rfl, rfl⟩, ⟨rfl, rfl⟩, ⟨rfl, rfl⟩, ⟨rfl, rfl⟩, ⟨rfl, rfl⟩, ⟨rfl, rfl⟩, ⟨rfl, rfl⟩, ⟨rfl, rfl⟩, ⟨rfl, rfl⟩, ⟨rfl, rfl⟩, trivial⟩, trivial⟩) (hu_x _) w
set_option maxRecDepth 1000000 in
theorem aZero_1 (w : World) : Calls Try.prog 55 #[.agg #[.bool false, .int .u8 239, .int .u8 1, .int .u8 1, .int .u8 1, .int .u8 0, .int .u8 0, .int .u8 0, .int .u8 0, .int .u8 0, .int .u8 0, .int .u8 0, .int .u8 0, .int .u8 0, .int .u8 0, .int .u8 0, .int .u8 0]] w fun e w' => e = .returned (.bool false) ∧ Mod (fun _ => False) w w' :=
  R.runs_eq (E := R.EX extL) (hE := ext_ok) (P := Try.prog) (n := 1000) (k := 100) (us := #[.agg #[.bool false, .int .u8 239, .int .u8 1, .int .u8 1, .int .u8 1, .int .u8 0, .int .u8 0, .int .u8 0, .int .u8 0, .int .u8 0, .int .u8 0, .int .u8 0, .int .u8 0, .int .u8 0, .int .u8 0, .int .u8 0, .int .u8 0]]) (xs := [.v (.a [.x (.bool false), .x (.int .u8 239), .x (.int .u8 1), .x (.int .u8 1), .x (.int .u8 1), .x (.int .u8 0), .x (.int .u8 0), .x (.int .u8 0), .x (.int .u8 0), .x (.int .u8 0), .x (.int .u8 0), .x (.int .u8 0), .x (.int .u8 0), .x (.int .u8 0), .x (.int .u8 0), .x (.int .u8 0), .x (.int .u8 0)])]) (y := .v (.c (.x (.bool false)))) (by kernel_rfl) (by kernel_rfl) (show R.LR _ _ _ from ⟨⟨_, rfl, ⟨rfl, rfl⟩, ⟨rfl, rfl⟩, ⟨rfl, rfl⟩, ⟨rfl, rfl⟩, ⟨rfl, rfl⟩, ⟨rfl, rfl⟩, ⟨rfl, rfl⟩, ⟨rfl, rfl⟩, ⟨rfl, rfl⟩, ⟨rfl, rfl⟩, ⟨rfl, rfl⟩, ⟨rfl, rfl⟩, ⟨rfl, rfl⟩, ⟨rfl, rfl⟩, ⟨rfl, rfl⟩, ⟨rfl, rfl⟩, ⟨rfl, rfl⟩, trivial⟩, trivial⟩) (hu_x _) w
set_option maxRecDepth 1000000 in
theorem aGroup_1 (w : World) : Calls Try.prog 56 #[.agg #[.bool false, .int .u8 239, .int .u8 1, .int .u8 1, .int .u8 1, .int .u8 0, .int .u8 0, .int .u8 0, .int .u8 0, .int .u8 0, .int .u8 0, .int .u8 0, .int .u8 0, .int .u8 0, .int .u8 0, .int .u8 0, .int .u8 0]] w fun e w' => e = .returned (.bool true) ∧ Mod (fun _ => False) w w' :=
  R.runs_eq (E := R.EX extL) (hE := ext_ok) (P := Try.prog) (n := 1000) (k := 100) (us := #[.agg #[.bool false, .int .u8 239, .int .u8 1, .int .u8 1, .int .u8 1, .int .u8 0, .int .u8 0, .int .u8 0, .int .u8 0, .int .u8 0, .int .u8 0, .int .u8 0, .int .u8 0, .int .u8 0, .int .u8 0, .int .u8 0, .int .u8 0]]) (xs := [.v (.a [.x (.bool false), .x (.int .u8 239), .x (.int .u8 1), .x (.int .u8 1), .x (.int .u8 1), .x (.int .u8 0), .x (.int .u8 0), .x (.int .u8 0), .x (.int .u8 0), .x (.int .u8 0), .x (.int .u8 0), .x (.int .u8 0), .x (.int .u8 0), .x (.int .u8 0), .x (.int .u8 0), .x (.int .u8 0), .x (.int .u8 0)])]) (y := .v (.c (.x (.bool true)))) (by kernel_rfl) (by kernel_rfl) (show R.LR _ _ _ from ⟨⟨_, rfl, ⟨rfl, rfl⟩, ⟨rfl, rfl⟩, ⟨rfl, rfl⟩, ⟨rfl, rfl⟩, ⟨rfl, rfl⟩, ⟨rfl, rfl⟩, ⟨rfl, rfl⟩, ⟨rfl, rfl⟩, ⟨rfl, rfl⟩, ⟨rfl, rfl⟩, ⟨rfl, rfl⟩, ⟨rfl, rfl⟩, ⟨rfl, rfl⟩, ⟨rfl, rfl⟩, ⟨rfl, rfl⟩, ⟨rfl, rfl⟩, ⟨rfl, rfl⟩, trivial⟩, trivial⟩) (hu_x _) w
set_option maxRecDepth 1000000 in
theorem aCmp_1 (w : World) : Calls Try.prog 59 #[.agg #[.bool false, .int .u8 239, .int .u8 1, .int .u8 1, .int .u8 1, .int .u8 0, .int .u8 0, .int .u8 0, .int .u8 0, .int .u8 0, .int .u8 0, .int .u8 0, .int .u8 0, .int .u8 0, .int .u8 0, .int .u8 0, .int .u8 0], .agg #[.bool false, .int .u8 239, .int .u8 1, .int .u8 1, .int .u8 1, .int .u8 0, .int .u8 0, .int .u8 0, .int .u8 0, .int .u8 0, .int .u8 0, .int .u8 0, .int .u8 0, .int .u8 0, .int .u8 0, .int .u8 0, .int .u8 0]] w fun e w' => e = .returned (.int .i64 0) ∧ Mod (fun _ => False) w w' :=
  R.runs_eq (E := R.EX extL) (hE := ext_ok) (P := Try.prog) (n := 1000) (k := 100) (us := #[.agg #[.bool false, .int .u8 239, .int .u8 1, .int .u8 1, .int .u8 1, .int .u8 0, .int .u8 0, .int .u8 0, .int .u8 0, .int .u8 0, .int .u8 0, .int .u8 0, .int .u8 0, .int .u8 0, .int .u8 0, .int .u8 0, .int .u8 0], .agg #[.bool false, .int .u8 239, .int .u8 1, .int .u8 1, .int .u8 1, .int .u8 0, .int .u8 0, .int .u8 0, .int .u8 0, .int .u8 0, .int .u8 0, .int .u8 0, .int .u8 0, .int .u8 0, .int .u8 0, .int .u8 0, .int .u8 0]]) (xs := [.v (.a [.x (.bool false), .x (.int .u8 239), .x (.int .u8 1), .x (.int .u8 1), .x (.int .u8 1), .x (.int .u8 0), .x (.int .u8 0), .x (.int .u8 0), .x (.int .u8 0), .x (.int .u8 0), .x (.int .u8 0), .x (.int .u8 0), .x (.int .u8 0), .x (.int .u8 0), .x (.int .u8 0), .x (.int .u8 0), .x (.int .u8 0)]), .v (.a [.x (.bool false), .x (.int .u8 239), .x (.int .u8 1), .x (.int .u8 1), .x (.int .u8 1), .x (.int .u8 0), .x (.int .u8 0), .x (.int .u8 0), .x (.int .u8 0), .x (.int .u8 0), .x (.int .u8 0), .x (.int .u8 0), .x (.int .u8 0), .x (.int .u8 0), .x (.int .u8 0), .x (.int .u8 0), .x (.int .u8 0)])]) (y := .v (.c (.x (.int .i64 0)))) (by kernel_rfl) (by kernel_rfl) (show R.LR _ _ _ from ⟨⟨_, rfl, ⟨rfl, rfl⟩, ⟨rfl, rfl⟩, ⟨rfl, rfl⟩, ⟨rfl, rfl⟩, ⟨rfl, rfl⟩, ⟨rfl, rfl⟩, ⟨rfl, rfl⟩, ⟨rfl, rfl⟩, ⟨rfl, rfl⟩, ⟨rfl, rfl⟩, ⟨rfl, rfl⟩, ⟨rfl, rfl⟩, ⟨rfl, rfl⟩, ⟨rfl, rfl⟩, ⟨rfl, rfl⟩, ⟨rfl, rfl⟩, ⟨rfl, rfl⟩, trivial⟩, ⟨_, rfl, ⟨rfl, rfl⟩, ⟨rfl, rfl⟩, ⟨rfl, rfl⟩, ⟨rfl, rfl⟩, ⟨rfl, rfl⟩, ⟨rfl, rfl⟩, ⟨rfl, rfl⟩, ⟨rfl, rfl⟩, ⟨rfl, rfl⟩, ⟨rfl, rfl⟩, ⟨rfl, rfl⟩, ⟨rfl, rfl⟩, ⟨rfl, rfl⟩, ⟨rfl, rfl⟩, ⟨rfl, rfl⟩, ⟨rfl, rfl⟩, ⟨rfl, rfl⟩, trivial⟩, trivial⟩) (hu_x _) w
set_option maxRecDepth 1000000 in
theorem cmp_1 (w : World) : Calls Try.prog 58 #[.int .i64 1, .int .i64 1] w fun e w' => e = .returned (.int .i64 0) ∧ Mod (fun _ => False) w w' :=
  R.runs_eq (E := R.EX extL) (hE := ext_ok) (P := Try.prog) (n := 1000) (k := 100) (us := #[.int .i64 1, .int .i64 1]) (xs := [.v (.c (.x (.int .i64 1))), .v (.c (.x (.int .i64 1)))]) (y := .v (.c (.x (.int .i64 0)))) (by kernel_rfl) (by kernel_rfl) (show R.LR _ _ _ from ⟨⟨rfl, rfl⟩, ⟨rfl, rfl⟩, trivial⟩) (hu_x _) w
theorem rowSize : (Try.prog.info? 29).map (·.size) = some 20 := by kernel_rfl
theorem addrSize : (Try.prog.info? 25).map (·.size) = some 17 := by kernel_rfl
def rowC (i b : Nat) : List Value := [.int .i64 1, .bool false, .int .u8 239, .int .u8 1, .int .u8 1, .int .u8 1, .int .u8 0, .int .u8 0, .int .u8 0, .int .u8 0, .int .u8 0, .int .u8 0, .int .u8 0, .int .u8 0, .int .u8 0, .int .u8 0, .int .u8 0, .int .u8 0, .int .i64 i, .slice (some ⟨b, 0, none⟩) 1 1]
theorem In_t (n lo hi : Int) (h1 : lo ≤ n) (h2 : n ≤ hi) (w : World) : Calls Try.prog 53 #[.int .i64 n, .int .i64 lo, .int .i64 hi] w fun e w' => e = .returned (.bool true) ∧ w = w' := by
  go_enter Try.func53, Try.ntmps53
  go_wp2
  go_ret
  exact ⟨rfl, rfl⟩
theorem isNaN_f (n : Int) (w : World) : Calls Try.prog 68 #[.int .i64 n] w fun e w' => e = .returned (.bool false) ∧ w = w' := by
  go_enter Try.func68, Try.ntmps68
  go_wp2
  go_ret
  exact ⟨rfl, rfl⟩
theorem Compare_lt (a b : Int) (h : a < b) (w : World) : Calls Try.prog 58 #[.int .i64 a, .int .i64 b] w fun e w' => e = .returned (.int .i64 (-1)) ∧ w = w' := by
  go_enter Try.func58, Try.ntmps58
  go_wp2_with fail
  refine (isNaN_f _ _).mono ?_; rintro e w1 ⟨rfl, rfl⟩
  go_wp2_with fail
  refine (isNaN_f _ _).mono ?_; rintro e w2 ⟨rfl, rfl⟩
  go_wp2
  go_ret
  exact ⟨rfl, rfl⟩
theorem Or_3 (b : Nat) (x : Int) (hx : x ≠ 0) (w : World) (h0 : w.cell? ⟨b, 0, none⟩ = some (.int .i64 0)) (h1 : w.cell? ⟨b, 1, none⟩ = some (.int .i64 0)) (h2 : w.cell? ⟨b, 2, none⟩ = some (.int .i64 x)) :
    Calls Try.prog 57 #[.slice (some ⟨b, 0, none⟩) 3 3] w fun e w' => e = .returned (.int .i64 x) ∧ w = w' := by
  go_enter Try.func57, Try.ntmps57
  go_wp2
  go_loop [8] (fun i => ∃ j : Nat, j ≤ 2 ∧ i = .int .i64 j) (fun i => 3 - (intOf i).toNat)
  case atStart => exact ⟨0, by omega, rfl⟩
  case round =>
    obtain ⟨j, hj, rfl⟩ := hrel
    rcases (show j = 0 ∨ j = 1 ∨ j = 2 by omega) with rfl | rfl | rfl
    · go_wp2
      go_round
      case rel => exact ⟨1, by omega, by go_num⟩
      case measure => simp [intOf]
    · go_wp2
      go_round
      case rel => exact ⟨2, by omega, by go_num⟩
      case measure => simp [intOf]
    · go_wp2
      go_ret
      exact ⟨rfl, rfl⟩
set_option maxRecDepth 100000 in
set_option maxHeartbeats 4000000 in
theorem goodRow_t (i b : Nat) (hi : i ≤ 65535) (w : World) (hb : w.cell? ⟨b, 0, none⟩ = some (.int .i64 1)) :
    Calls Try.prog 38 #[.agg #[.int .i64 1, .bool false, .int .u8 239, .int .u8 1, .int .u8 1, .int .u8 1, .int .u8 0, .int .u8 0, .int .u8 0, .int .u8 0, .int .u8 0, .int .u8 0, .int .u8 0, .int .u8 0, .int .u8 0, .int .u8 0, .int .u8 0, .int .u8 0, .int .i64 i, .slice (some ⟨b, 0, none⟩) 1 1]] w fun e w' => e = .returned (.bool true) ∧ Mod (fun _ => False) w w' := by
  have hi1 : (0 : Int) ≤ i := by omega
  have hi2 : (i : Int) ≤ 65535 := by omega
  have hA := rangeOf (allocNew w (.cells #[.int .i64 1, .bool false, .int .u8 239, .int .u8 1, .int .u8 1, .int .u8 1, .int .u8 0, .int .u8 0, .int .u8 0, .int .u8 0, .int .u8 0, .int .u8 0, .int .u8 0, .int .u8 0, .int .u8 0, .int .u8 0, .int .u8 0, .int .u8 0, .int .i64 i, .slice (some ⟨b, 0, none⟩) 1 1] 29))
  have hm : Mod (fun _ => False) w (w.alloc (.cells #[.int .i64 1, .bool false, .int .u8 239, .int .u8 1, .int .u8 1, .int .u8 1, .int .u8 0, .int .u8 0, .int .u8 0, .int .u8 0, .int .u8 0, .int .u8 0, .int .u8 0, .int .u8 0, .int .u8 0, .int .u8 0, .int .u8 0, .int .u8 0, .int .i64 i, .slice (some ⟨b, 0, none⟩) 1 1] 29)) := (Mod.refl _ _).alloc _
  have hn := hm.cell (fun f => f) hb
  go_enter Try.func38, Try.ntmps38
  go_wp2_with fail
  obtain ⟨W0, hW0⟩ : ∃ W0, W0 = w.alloc (.cells #[.int .i64 1, .bool false, .int .u8 239, .int .u8 1, .int .u8 1, .int .u8 1, .int .u8 0, .int .u8 0, .int .u8 0, .int .u8 0, .int .u8 0, .int .u8 0, .int .u8 0, .int .u8 0, .int .u8 0, .int .u8 0, .int .u8 0, .int .u8 0, .int .i64 i, .slice (some ⟨b, 0, none⟩) 1 1] 29) := ⟨_, rfl⟩
  obtain ⟨pb, hpb⟩ : ∃ pb, pb = w.heap.size := ⟨_, rfl⟩
  rw [← hW0, ← hpb] at hA
  rw [← hW0] at hm hn
  try rw [← hW0]
  try rw [← hpb]
  have c19 : W0.cell? ⟨pb, 19, none⟩ = some (.slice (some ⟨b, 0, none⟩) 1 1) := hA 19 _ rfl
  have HA := Lib.hid hA
  have HM := Lib.hid hm
  have HI24 : Hid ((Try.prog.info? 25).map (·.size) = some 17) := Lib.hid addrSize
  clear hA hm hb hW0 hpb
  go_wp2_with fail
  go_loop [9] (fun i => ∃ j : Nat, j ≤ 1 ∧ i = .int .i64 j) (fun i => 1 - (intOf i).toNat)
  case atStart => exact ⟨0, by omega, rfl⟩
  case round =>
    obtain ⟨j, hj, rfl⟩ := hrel
    rcases (show j = 0 ∨ j = 1 by omega) with rfl | rfl
    · go_wp2_with fail
      refine (In_t _ _ _ (by omega) (by omega) _).mono ?_; rintro e w1 ⟨rfl, rfl⟩
      go_wp2_with fail
      go_round
      case rel => exact ⟨1, by omega, by go_num⟩
      case measure => simp [intOf]
    · go_wp2_with (first | (refine wpList_load_mid rfl _ _ rfl pb 1 rfl [.bool false, .int .u8 239, .int .u8 1, .int .u8 1, .int .u8 1, .int .u8 0, .int .u8 0, .int .u8 0, .int .u8 0, .int .u8 0, .int .u8 0, .int .u8 0, .int .u8 0, .int .u8 0, .int .u8 0, .int .u8 0, .int .u8 0] _ (subRange (cs := [.int .i64 1, .bool false, .int .u8 239, .int .u8 1, .int .u8 1, .int .u8 1, .int .u8 0, .int .u8 0, .int .u8 0, .int .u8 0, .int .u8 0, .int .u8 0, .int .u8 0, .int .u8 0, .int .u8 0, .int .u8 0, .int .u8 0, .int .u8 0, .int .i64 i, .slice (some ⟨b, 0, none⟩) 1 1]) 1 17 HA.out) Try.underlying25 rfl HI24.out ?_) | (refine wpList_load_midG rfl _ _ rfl pb 1 rfl [.bool false, .int .u8 239, .int .u8 1, .int .u8 1, .int .u8 1, .int .u8 0, .int .u8 0, .int .u8 0, .int .u8 0, .int .u8 0, .int .u8 0, .int .u8 0, .int .u8 0, .int .u8 0, .int .u8 0, .int .u8 0, .int .u8 0] _ (subRange (cs := [.int .i64 1, .bool false, .int .u8 239, .int .u8 1, .int .u8 1, .int .u8 1, .int .u8 0, .int .u8 0, .int .u8 0, .int .u8 0, .int .u8 0, .int .u8 0, .int .u8 0, .int .u8 0, .int .u8 0, .int .u8 0, .int .u8 0, .int .u8 0, .int .i64 i, .slice (some ⟨b, 0, none⟩) 1 1]) 1 17 HA.out) Try.underlying25 rfl HI24.out ?_))
      refine (aGood_1 _).mono ?_; rintro e W1 ⟨rfl, hm⟩
      replace HA := Lib.hid (keepRange hm HA.out)
      replace HM := Lib.hid (HM.out.trans hm fun _ f => f.elim)
      clear hm c19 hn
      go_wp2_with (first | (refine wpList_load_mid rfl _ _ rfl pb 1 rfl [.bool false, .int .u8 239, .int .u8 1, .int .u8 1, .int .u8 1, .int .u8 0, .int .u8 0, .int .u8 0, .int .u8 0, .int .u8 0, .int .u8 0, .int .u8 0, .int .u8 0, .int .u8 0, .int .u8 0, .int .u8 0, .int .u8 0] _ (subRange (cs := [.int .i64 1, .bool false, .int .u8 239, .int .u8 1, .int .u8 1, .int .u8 1, .int .u8 0, .int .u8 0, .int .u8 0, .int .u8 0, .int .u8 0, .int .u8 0, .int .u8 0, .int .u8 0, .int .u8 0, .int .u8 0, .int .u8 0, .int .u8 0, .int .i64 i, .slice (some ⟨b, 0, none⟩) 1 1]) 1 17 HA.out) Try.underlying25 rfl HI24.out ?_) | (refine wpList_load_midG rfl _ _ rfl pb 1 rfl [.bool false, .int .u8 239, .int .u8 1, .int .u8 1, .int .u8 1, .int .u8 0, .int .u8 0, .int .u8 0, .int .u8 0, .int .u8 0, .int .u8 0, .int .u8 0, .int .u8 0, .int .u8 0, .int .u8 0, .int .u8 0, .int .u8 0] _ (subRange (cs := [.int .i64 1, .bool false, .int .u8 239, .int .u8 1, .int .u8 1, .int .u8 1, .int .u8 0, .int .u8 0, .int .u8 0, .int .u8 0, .int .u8 0, .int .u8 0, .int .u8 0, .int .u8 0, .int .u8 0, .int .u8 0, .int .u8 0, .int .u8 0, .int .i64 i, .slice (some ⟨b, 0, none⟩) 1 1]) 1 17 HA.out) Try.underlying25 rfl HI24.out ?_))
      refine (aZero_1 _).mono ?_; rintro e W2 ⟨rfl, hm⟩
      replace HA := Lib.hid (keepRange hm HA.out)
      replace HM := Lib.hid (HM.out.trans hm fun _ f => f.elim)
      clear hm
      go_wp2_with (first | (refine wpList_load_mid rfl _ _ rfl pb 1 rfl [.bool false, .int .u8 239, .int .u8 1, .int .u8 1, .int .u8 1, .int .u8 0, .int .u8 0, .int .u8 0, .int .u8 0, .int .u8 0, .int .u8 0, .int .u8 0, .int .u8 0, .int .u8 0, .int .u8 0, .int .u8 0, .int .u8 0] _ (subRange (cs := [.int .i64 1, .bool false, .int .u8 239, .int .u8 1, .int .u8 1, .int .u8 1, .int .u8 0, .int .u8 0, .int .u8 0, .int .u8 0, .int .u8 0, .int .u8 0, .int .u8 0, .int .u8 0, .int .u8 0, .int .u8 0, .int .u8 0, .int .u8 0, .int .i64 i, .slice (some ⟨b, 0, none⟩) 1 1]) 1 17 HA.out) Try.underlying25 rfl HI24.out ?_) | (refine wpList_load_midG rfl _ _ rfl pb 1 rfl [.bool false, .int .u8 239, .int .u8 1, .int .u8 1, .int .u8 1, .int .u8 0, .int .u8 0, .int .u8 0, .int .u8 0, .int .u8 0, .int .u8 0, .int .u8 0, .int .u8 0, .int .u8 0, .int .u8 0, .int .u8 0, .int .u8 0] _ (subRange (cs := [.int .i64 1, .bool false, .int .u8 239, .int .u8 1, .int .u8 1, .int .u8 1, .int .u8 0, .int .u8 0, .int .u8 0, .int .u8 0, .int .u8 0, .int .u8 0, .int .u8 0, .int .u8 0, .int .u8 0, .int .u8 0, .int .u8 0, .int .u8 0, .int .i64 i, .slice (some ⟨b, 0, none⟩) 1 1]) 1 17 HA.out) Try.underlying25 rfl HI24.out ?_))
      refine (aGroup_1 _).mono ?_; rintro e W3 ⟨rfl, hm⟩
      replace HA := Lib.hid (keepRange hm HA.out)
      replace HM := Lib.hid (HM.out.trans hm fun _ f => f.elim)
      clear hm
      have c0 : W3.cell? ⟨pb, 0, none⟩ = some (.int .i64 1) := HA.out 0 _ rfl
      have c18 : W3.cell? ⟨pb, 18, none⟩ = some (.int .i64 i) := HA.out 18 _ rfl
      have c19 : W3.cell? ⟨pb, 19, none⟩ = some (.slice (some ⟨b, 0, none⟩) 1 1) := HA.out 19 _ rfl
      go_wp2_with fail
      refine (In_t _ _ _ (by omega) (by omega) _).mono ?_; rintro e w1 ⟨rfl, rfl⟩
      go_wp2_with fail
      refine (In_t _ _ _ (by omega) (by omega) _).mono ?_; rintro e w1 ⟨rfl, rfl⟩
      go_wp2_with fail
      refine (In_t _ _ _ (by omega) (by omega) _).mono ?_; rintro e w1 ⟨rfl, rfl⟩
      go_wp2
      go_ret
      exact ⟨rfl, HM.out⟩
set_option maxRecDepth 100000 in
set_option maxHeartbeats 4000000 in
theorem compare_lt (i b j c : Nat) (hij : i < j) (w : World) :
    Calls Try.prog 39 #[.agg #[.int .i64 1, .bool false, .int .u8 239, .int .u8 1, .int .u8 1, .int .u8 1, .int .u8 0, .int .u8 0, .int .u8 0, .int .u8 0, .int .u8 0, .int .u8 0, .int .u8 0, .int .u8 0, .int .u8 0, .int .u8 0, .int .u8 0, .int .u8 0, .int .i64 i, .slice (some ⟨b, 0, none⟩) 1 1], .agg #[.int .i64 1, .bool false, .int .u8 239, .int .u8 1, .int .u8 1, .int .u8 1, .int .u8 0, .int .u8 0, .int .u8 0, .int .u8 0, .int .u8 0, .int .u8 0, .int .u8 0, .int .u8 0, .int .u8 0, .int .u8 0, .int .u8 0, .int .u8 0, .int .i64 j, .slice (some ⟨c, 0, none⟩) 1 1]] w fun e w' => e = .returned (.int .i64 (-1)) ∧ Mod (fun _ => False) w w' := by
  have hij1 : (i : Int) < (j : Int) := by omega
  have hA := allocFar (x := .cells #[.int .i64 1, .bool false, .int .u8 239, .int .u8 1, .int .u8 1, .int .u8 1, .int .u8 0, .int .u8 0, .int .u8 0, .int .u8 0, .int .u8 0, .int .u8 0, .int .u8 0, .int .u8 0, .int .u8 0, .int .u8 0, .int .u8 0, .int .u8 0, .int .i64 j, .slice (some ⟨c, 0, none⟩) 1 1] 29) (allocNew w (.cells #[.int .i64 1, .bool false, .int .u8 239, .int .u8 1, .int .u8 1, .int .u8 1, .int .u8 0, .int .u8 0, .int .u8 0, .int .u8 0, .int .u8 0, .int .u8 0, .int .u8 0, .int .u8 0, .int .u8 0, .int .u8 0, .int .u8 0, .int .u8 0, .int .i64 i, .slice (some ⟨b, 0, none⟩) 1 1] 29))
  have hB := allocNew (w.alloc (.cells #[.int .i64 1, .bool false, .int .u8 239, .int .u8 1, .int .u8 1, .int .u8 1, .int .u8 0, .int .u8 0, .int .u8 0, .int .u8 0, .int .u8 0, .int .u8 0, .int .u8 0, .int .u8 0, .int .u8 0, .int .u8 0, .int .u8 0, .int .u8 0, .int .i64 i, .slice (some ⟨b, 0, none⟩) 1 1] 29)) (.cells #[.int .i64 1, .bool false, .int .u8 239, .int .u8 1, .int .u8 1, .int .u8 1, .int .u8 0, .int .u8 0, .int .u8 0, .int .u8 0, .int .u8 0, .int .u8 0, .int .u8 0, .int .u8 0, .int .u8 0, .int .u8 0, .int .u8 0, .int .u8 0, .int .i64 j, .slice (some ⟨c, 0, none⟩) 1 1] 29)
  have hm : Mod (fun _ => False) w ((w.alloc (.cells #[.int .i64 1, .bool false, .int .u8 239, .int .u8 1, .int .u8 1, .int .u8 1, .int .u8 0, .int .u8 0, .int .u8 0, .int .u8 0, .int .u8 0, .int .u8 0, .int .u8 0, .int .u8 0, .int .u8 0, .int .u8 0, .int .u8 0, .int .u8 0, .int .i64 i, .slice (some ⟨b, 0, none⟩) 1 1] 29)).alloc (.cells #[.int .i64 1, .bool false, .int .u8 239, .int .u8 1, .int .u8 1, .int .u8 1, .int .u8 0, .int .u8 0, .int .u8 0, .int .u8 0, .int .u8 0, .int .u8 0, .int .u8 0, .int .u8 0, .int .u8 0, .int .u8 0, .int .u8 0, .int .u8 0, .int .i64 j, .slice (some ⟨c, 0, none⟩) 1 1] 29)) := ((Mod.refl _ _).alloc _).alloc _
  rw [show (w.alloc (.cells #[.int .i64 1, .bool false, .int .u8 239, .int .u8 1, .int .u8 1, .int .u8 1, .int .u8 0, .int .u8 0, .int .u8 0, .int .u8 0, .int .u8 0, .int .u8 0, .int .u8 0, .int .u8 0, .int .u8 0, .int .u8 0, .int .u8 0, .int .u8 0, .int .i64 i, .slice (some ⟨b, 0, none⟩) 1 1] 29)).heap.size = w.heap.size + 1 by simp] at hB
  go_enter Try.func39, Try.ntmps39
  go_wp2_with fail
  obtain ⟨W0, hW0⟩ : ∃ W0, W0 = (w.alloc (.cells #[.int .i64 1, .bool false, .int .u8 239, .int .u8 1, .int .u8 1, .int .u8 1, .int .u8 0, .int .u8 0, .int .u8 0, .int .u8 0, .int .u8 0, .int .u8 0, .int .u8 0, .int .u8 0, .int .u8 0, .int .u8 0, .int .u8 0, .int .u8 0, .int .i64 i, .slice (some ⟨b, 0, none⟩) 1 1] 29)).alloc (.cells #[.int .i64 1, .bool false, .int .u8 239, .int .u8 1, .int .u8 1, .int .u8 1, .int .u8 0, .int .u8 0, .int .u8 0, .int .u8 0, .int .u8 0, .int .u8 0, .int .u8 0, .int .u8 0, .int .u8 0, .int .u8 0, .int .u8 0, .int .u8 0, .int .i64 j, .slice (some ⟨c, 0, none⟩) 1 1] 29) := ⟨_, rfl⟩
  obtain ⟨pb, hpb⟩ : ∃ pb, pb = w.heap.size := ⟨_, rfl⟩
  obtain ⟨pc, hpc⟩ : ∃ pc, pc = w.heap.size + 1 := ⟨_, rfl⟩
  rw [← hW0, ← hpb] at hA
  rw [← hW0, ← hpc] at hB
  rw [← hW0] at hm
  try rw [← hW0]
  try rw [← hpc]
  try rw [← hpb]
  have HA := Lib.hid (keepRange (Mod.refl (fun _ => False) _).drew (rangeOf hA))
  have HB := Lib.hid (keepRange (Mod.refl (fun _ => False) _).drew (rangeOf hB))
  have HM := Lib.hid hm.drew
  have HI24 : Hid ((Try.prog.info? 25).map (·.size) = some 17) := Lib.hid addrSize
  clear hA hB hm hW0 hpb hpc
  have hS : _ := (⟨HA.out, HB.out, HA.out 0 _ rfl, HB.out 0 _ rfl, HA.out 18 _ rfl, HB.out 18 _ rfl⟩ : (fun w' : World => w'.rangeAt pb 0 [.int .i64 1, .bool false, .int .u8 239, .int .u8 1, .int .u8 1, .int .u8 1, .int .u8 0, .int .u8 0, .int .u8 0, .int .u8 0, .int .u8 0, .int .u8 0, .int .u8 0, .int .u8 0, .int .u8 0, .int .u8 0, .int .u8 0, .int .u8 0, .int .i64 i, .slice (some ⟨b, 0, none⟩) 1 1] ∧ w'.rangeAt pc 0 [.int .i64 1, .bool false, .int .u8 239, .int .u8 1, .int .u8 1, .int .u8 1, .int .u8 0, .int .u8 0, .int .u8 0, .int .u8 0, .int .u8 0, .int .u8 0, .int .u8 0, .int .u8 0, .int .u8 0, .int .u8 0, .int .u8 0, .int .u8 0, .int .i64 j, .slice (some ⟨c, 0, none⟩) 1 1] ∧ w'.cell? ⟨pb, 0, none⟩ = some (.int .i64 1) ∧ w'.cell? ⟨pc, 0, none⟩ = some (.int .i64 1) ∧ w'.cell? ⟨pb, 18, none⟩ = some (.int .i64 i) ∧ w'.cell? ⟨pc, 18, none⟩ = some (.int .i64 j)) W0.drew)
  refine wp_region_plan [] [(0, 0), (1, 1), (2, 0), (3, 1), (5, 0), (6, 1), (7, 0), (8, 1), (10, 0), (11, 1), (12, 0), (13, 1), (4, 2), (9, 2), (14, 2), (15, 2), (16, 2), (17, 0)] (fun w' : World => w'.rangeAt pb 0 [.int .i64 1, .bool false, .int .u8 239, .int .u8 1, .int .u8 1, .int .u8 1, .int .u8 0, .int .u8 0, .int .u8 0, .int .u8 0, .int .u8 0, .int .u8 0, .int .u8 0, .int .u8 0, .int .u8 0, .int .u8 0, .int .u8 0, .int .u8 0, .int .i64 i, .slice (some ⟨b, 0, none⟩) 1 1] ∧ w'.rangeAt pc 0 [.int .i64 1, .bool false, .int .u8 239, .int .u8 1, .int .u8 1, .int .u8 1, .int .u8 0, .int .u8 0, .int .u8 0, .int .u8 0, .int .u8 0, .int .u8 0, .int .u8 0, .int .u8 0, .int .u8 0, .int .u8 0, .int .u8 0, .int .u8 0, .int .i64 j, .slice (some ⟨c, 0, none⟩) 1 1] ∧ w'.cell? ⟨pb, 0, none⟩ = some (.int .i64 1) ∧ w'.cell? ⟨pc, 0, none⟩ = some (.int .i64 1) ∧ w'.cell? ⟨pb, 18, none⟩ = some (.int .i64 i) ∧ w'.cell? ⟨pc, 18, none⟩ = some (.int .i64 j)) (by kernel_rfl) (by kernel_rfl) (fun d _ _ _ _ h => by cases d <;> exact h) ?_
  repeat (first | (refine plan_skip rfl rfl ?_; simp only [List.getElem_toArray, List.getElem_cons_succ, List.getElem_cons_zero, Act.put, List.setIfInBounds_toArray, List.set_cons_zero, List.set_cons_succ]) | (refine plan_pass2 rfl rfl ?_; simp only [List.getElem_toArray, List.getElem_cons_succ, List.getElem_cons_zero, Act.put, List.setIfInBounds_toArray, List.set_cons_zero, List.set_cons_succ]) | (refine plan_pass3 rfl rfl ?_; simp only [List.getElem_toArray, List.getElem_cons_succ, List.getElem_cons_zero, Act.put, List.setIfInBounds_toArray, List.set_cons_zero, List.set_cons_succ]) | (refine plan_take (v := ?_) rfl rfl ?_ ?_; rotate_left; (focus (intro w0; go_simp; try with_reducible rfl)); simp only [List.getElem_toArray, List.getElem_cons_succ, List.getElem_cons_zero, Act.put, List.setIfInBounds_toArray, List.set_cons_zero, List.set_cons_succ]) | (refine plan_held (v := ?_) rfl rfl ⟨HA.out, HB.out, HA.out 0 _ rfl, HB.out 0 _ rfl, HA.out 18 _ rfl, HB.out 18 _ rfl⟩ ?_ ?_; rotate_left; (focus (intro w0 hSw; (try dsimp only at hSw); go_split_ands; go_simp; try with_reducible rfl)); simp only [List.getElem_toArray, List.getElem_cons_succ, List.getElem_cons_zero, Act.put, List.setIfInBounds_toArray, List.set_cons_zero, List.set_cons_succ])  | (refine plan_skip1 rfl rfl ⟨HA.out, HB.out, HA.out 0 _ rfl, HB.out 0 _ rfl, HA.out 18 _ rfl, HB.out 18 _ rfl⟩ ?_; simp only [List.getElem_toArray, List.getElem_cons_succ, List.getElem_cons_zero, Act.put, List.setIfInBounds_toArray, List.set_cons_zero, List.set_cons_succ]))
  (refine plan_held (v := .agg #[.bool false, .int .u8 239, .int .u8 1, .int .u8 1, .int .u8 1, .int .u8 0, .int .u8 0, .int .u8 0, .int .u8 0, .int .u8 0, .int .u8 0, .int .u8 0, .int .u8 0, .int .u8 0, .int .u8 0, .int .u8 0, .int .u8 0]) rfl rfl ⟨HA.out, HB.out, HA.out 0 _ rfl, HB.out 0 _ rfl, HA.out 18 _ rfl, HB.out 18 _ rfl⟩ (fun w0 h0 => exec_load_mid _ _ rfl pb 1 rfl [.bool false, .int .u8 239, .int .u8 1, .int .u8 1, .int .u8 1, .int .u8 0, .int .u8 0, .int .u8 0, .int .u8 0, .int .u8 0, .int .u8 0, .int .u8 0, .int .u8 0, .int .u8 0, .int .u8 0, .int .u8 0, .int .u8 0] _ w0 (subRange (cs := [.int .i64 1, .bool false, .int .u8 239, .int .u8 1, .int .u8 1, .int .u8 1, .int .u8 0, .int .u8 0, .int .u8 0, .int .u8 0, .int .u8 0, .int .u8 0, .int .u8 0, .int .u8 0, .int .u8 0, .int .u8 0, .int .u8 0, .int .u8 0, .int .i64 i, .slice (some ⟨b, 0, none⟩) 1 1]) 1 17 h0.1) Try.underlying25 rfl HI24.out) ?_; try simp only [List.getElem_toArray, List.getElem_cons_succ, List.getElem_cons_zero, Act.put, List.setIfInBounds_toArray, List.set_cons_zero, List.set_cons_succ])
  repeat (first | (refine plan_skip rfl rfl ?_; simp only [List.getElem_toArray, List.getElem_cons_succ, List.getElem_cons_zero, Act.put, List.setIfInBounds_toArray, List.set_cons_zero, List.set_cons_succ]) | (refine plan_pass2 rfl rfl ?_; simp only [List.getElem_toArray, List.getElem_cons_succ, List.getElem_cons_zero, Act.put, List.setIfInBounds_toArray, List.set_cons_zero, List.set_cons_succ]) | (refine plan_pass3 rfl rfl ?_; simp only [List.getElem_toArray, List.getElem_cons_succ, List.getElem_cons_zero, Act.put, List.setIfInBounds_toArray, List.set_cons_zero, List.set_cons_succ]) | (refine plan_take (v := ?_) rfl rfl ?_ ?_; rotate_left; (focus (intro w0; go_simp; try with_reducible rfl)); simp only [List.getElem_toArray, List.getElem_cons_succ, List.getElem_cons_zero, Act.put, List.setIfInBounds_toArray, List.set_cons_zero, List.set_cons_succ]) | (refine plan_held (v := ?_) rfl rfl ⟨HA.out, HB.out, HA.out 0 _ rfl, HB.out 0 _ rfl, HA.out 18 _ rfl, HB.out 18 _ rfl⟩ ?_ ?_; rotate_left; (focus (intro w0 hSw; (try dsimp only at hSw); go_split_ands; go_simp; try with_reducible rfl)); simp only [List.getElem_toArray, List.getElem_cons_succ, List.getElem_cons_zero, Act.put, List.setIfInBounds_toArray, List.set_cons_zero, List.set_cons_succ])  | (refine plan_skip1 rfl rfl ⟨HA.out, HB.out, HA.out 0 _ rfl, HB.out 0 _ rfl, HA.out 18 _ rfl, HB.out 18 _ rfl⟩ ?_; simp only [List.getElem_toArray, List.getElem_cons_succ, List.getElem_cons_zero, Act.put, List.setIfInBounds_toArray, List.set_cons_zero, List.set_cons_succ]))
  (refine plan_held (v := .agg #[.bool false, .int .u8 239, .int .u8 1, .int .u8 1, .int .u8 1, .int .u8 0, .int .u8 0, .int .u8 0, .int .u8 0, .int .u8 0, .int .u8 0, .int .u8 0, .int .u8 0, .int .u8 0, .int .u8 0, .int .u8 0, .int .u8 0]) rfl rfl ⟨HA.out, HB.out, HA.out 0 _ rfl, HB.out 0 _ rfl, HA.out 18 _ rfl, HB.out 18 _ rfl⟩ (fun w0 h0 => exec_load_mid _ _ rfl pc 1 rfl [.bool false, .int .u8 239, .int .u8 1, .int .u8 1, .int .u8 1, .int .u8 0, .int .u8 0, .int .u8 0, .int .u8 0, .int .u8 0, .int .u8 0, .int .u8 0, .int .u8 0, .int .u8 0, .int .u8 0, .int .u8 0, .int .u8 0] _ w0 (subRange (cs := [.int .i64 1, .bool false, .int .u8 239, .int .u8 1, .int .u8 1, .int .u8 1, .int .u8 0, .int .u8 0, .int .u8 0, .int .u8 0, .int .u8 0, .int .u8 0, .int .u8 0, .int .u8 0, .int .u8 0, .int .u8 0, .int .u8 0, .int .u8 0, .int .i64 j, .slice (some ⟨c, 0, none⟩) 1 1]) 1 17 h0.2.1) Try.underlying25 rfl HI24.out) ?_; try simp only [List.getElem_toArray, List.getElem_cons_succ, List.getElem_cons_zero, Act.put, List.setIfInBounds_toArray, List.set_cons_zero, List.set_cons_succ])
  repeat (first | (refine plan_skip rfl rfl ?_; simp only [List.getElem_toArray, List.getElem_cons_succ, List.getElem_cons_zero, Act.put, List.setIfInBounds_toArray, List.set_cons_zero, List.set_cons_succ]) | (refine plan_pass2 rfl rfl ?_; simp only [List.getElem_toArray, List.getElem_cons_succ, List.getElem_cons_zero, Act.put, List.setIfInBounds_toArray, List.set_cons_zero, List.set_cons_succ]) | (refine plan_pass3 rfl rfl ?_; simp only [List.getElem_toArray, List.getElem_cons_succ, List.getElem_cons_zero, Act.put, List.setIfInBounds_toArray, List.set_cons_zero, List.set_cons_succ]) | (refine plan_take (v := ?_) rfl rfl ?_ ?_; rotate_left; (focus (intro w0; go_simp; try with_reducible rfl)); simp only [List.getElem_toArray, List.getElem_cons_succ, List.getElem_cons_zero, Act.put, List.setIfInBounds_toArray, List.set_cons_zero, List.set_cons_succ]) | (refine plan_held (v := ?_) rfl rfl ⟨HA.out, HB.out, HA.out 0 _ rfl, HB.out 0 _ rfl, HA.out 18 _ rfl, HB.out 18 _ rfl⟩ ?_ ?_; rotate_left; (focus (intro w0 hSw; (try dsimp only at hSw); go_split_ands; go_simp; try with_reducible rfl)); simp only [List.getElem_toArray, List.getElem_cons_succ, List.getElem_cons_zero, Act.put, List.setIfInBounds_toArray, List.set_cons_zero, List.set_cons_succ])  | (refine plan_skip1 rfl rfl ⟨HA.out, HB.out, HA.out 0 _ rfl, HB.out 0 _ rfl, HA.out 18 _ rfl, HB.out 18 _ rfl⟩ ?_; simp only [List.getElem_toArray, List.getElem_cons_succ, List.getElem_cons_zero, Act.put, List.setIfInBounds_toArray, List.set_cons_zero, List.set_cons_succ]))
  clear hS
  (refine plan_do rfl rfl fun K hK => ?_; try simp only [List.getElem_toArray, List.getElem_cons_succ, List.getElem_cons_zero])
  go_simp
  refine (cmp_1 _).mono ?_; rintro e W1 ⟨rfl, hm⟩
  replace HA := Lib.hid (keepRange hm HA.out)
  replace HB := Lib.hid (keepRange hm HB.out)
  replace HM := Lib.hid (HM.out.trans hm fun _ f => f.elim)
  refine hK _ _ ⟨HA.out, HB.out, HA.out 0 _ rfl, HB.out 0 _ rfl, HA.out 18 _ rfl, HB.out 18 _ rfl⟩ ?_
  clear hK K hm
  try simp only [List.getElem_toArray, List.getElem_cons_succ, List.getElem_cons_zero, Act.put, List.setIfInBounds_toArray, List.set_cons_zero, List.set_cons_succ]
  repeat (first | (refine plan_skip rfl rfl ?_; simp only [List.getElem_toArray, List.getElem_cons_succ, List.getElem_cons_zero, Act.put, List.setIfInBounds_toArray, List.set_cons_zero, List.set_cons_succ]) | (refine plan_pass2 rfl rfl ?_; simp only [List.getElem_toArray, List.getElem_cons_succ, List.getElem_cons_zero, Act.put, List.setIfInBounds_toArray, List.set_cons_zero, List.set_cons_succ]) | (refine plan_pass3 rfl rfl ?_; simp only [List.getElem_toArray, List.getElem_cons_succ, List.getElem_cons_zero, Act.put, List.setIfInBounds_toArray, List.set_cons_zero, List.set_cons_succ]) | (refine plan_take (v := ?_) rfl rfl ?_ ?_; rotate_left; (focus (intro w0; go_simp; try with_reducible rfl)); simp only [List.getElem_toArray, List.getElem_cons_succ, List.getElem_cons_zero, Act.put, List.setIfInBounds_toArray, List.set_cons_zero, List.set_cons_succ]) | (refine plan_held (v := ?_) rfl rfl ⟨HA.out, HB.out, HA.out 0 _ rfl, HB.out 0 _ rfl, HA.out 18 _ rfl, HB.out 18 _ rfl⟩ ?_ ?_; rotate_left; (focus (intro w0 hSw; (try dsimp only at hSw); go_split_ands; go_simp; try with_reducible rfl)); simp only [List.getElem_toArray, List.getElem_cons_succ, List.getElem_cons_zero, Act.put, List.setIfInBounds_toArray, List.set_cons_zero, List.set_cons_succ])  | (refine plan_skip1 rfl rfl ⟨HA.out, HB.out, HA.out 0 _ rfl, HB.out 0 _ rfl, HA.out 18 _ rfl, HB.out 18 _ rfl⟩ ?_; simp only [List.getElem_toArray, List.getElem_cons_succ, List.getElem_cons_zero, Act.put, List.setIfInBounds_toArray, List.set_cons_zero, List.set_cons_succ]))
  (refine plan_do rfl rfl fun K hK => ?_; try simp only [List.getElem_toArray, List.getElem_cons_succ, List.getElem_cons_zero])
  go_simp
  refine (aCmp_1 _).mono ?_; rintro e W2 ⟨rfl, hm⟩
  replace HA := Lib.hid (keepRange hm HA.out)
  replace HB := Lib.hid (keepRange hm HB.out)
  replace HM := Lib.hid (HM.out.trans hm fun _ f => f.elim)
  refine hK _ _ ⟨HA.out, HB.out, HA.out 0 _ rfl, HB.out 0 _ rfl, HA.out 18 _ rfl, HB.out 18 _ rfl⟩ ?_
  clear hK K hm
  try simp only [List.getElem_toArray, List.getElem_cons_succ, List.getElem_cons_zero, Act.put, List.setIfInBounds_toArray, List.set_cons_zero, List.set_cons_succ]
  repeat (first | (refine plan_skip rfl rfl ?_; simp only [List.getElem_toArray, List.getElem_cons_succ, List.getElem_cons_zero, Act.put, List.setIfInBounds_toArray, List.set_cons_zero, List.set_cons_succ]) | (refine plan_pass2 rfl rfl ?_; simp only [List.getElem_toArray, List.getElem_cons_succ, List.getElem_cons_zero, Act.put, List.setIfInBounds_toArray, List.set_cons_zero, List.set_cons_succ]) | (refine plan_pass3 rfl rfl ?_; simp only [List.getElem_toArray, List.getElem_cons_succ, List.getElem_cons_zero, Act.put, List.setIfInBounds_toArray, List.set_cons_zero, List.set_cons_succ]) | (refine plan_take (v := ?_) rfl rfl ?_ ?_; rotate_left; (focus (intro w0; go_simp; try with_reducible rfl)); simp only [List.getElem_toArray, List.getElem_cons_succ, List.getElem_cons_zero, Act.put, List.setIfInBounds_toArray, List.set_cons_zero, List.set_cons_succ]) | (refine plan_held (v := ?_) rfl rfl ⟨HA.out, HB.out, HA.out 0 _ rfl, HB.out 0 _ rfl, HA.out 18 _ rfl, HB.out 18 _ rfl⟩ ?_ ?_; rotate_left; (focus (intro w0 hSw; (try dsimp only at hSw); go_split_ands; go_simp; try with_reducible rfl)); simp only [List.getElem_toArray, List.getElem_cons_succ, List.getElem_cons_zero, Act.put, List.setIfInBounds_toArray, List.set_cons_zero, List.set_cons_succ])  | (refine plan_skip1 rfl rfl ⟨HA.out, HB.out, HA.out 0 _ rfl, HB.out 0 _ rfl, HA.out 18 _ rfl, HB.out 18 _ rfl⟩ ?_; simp only [List.getElem_toArray, List.getElem_cons_succ, List.getElem_cons_zero, Act.put, List.setIfInBounds_toArray, List.set_cons_zero, List.set_cons_succ]))
  (refine plan_do rfl rfl fun K hK => ?_; try simp only [List.getElem_toArray, List.getElem_cons_succ, List.getElem_cons_zero])
  go_simp
  refine (Compare_lt _ _ hij1 _).mono ?_; rintro e W3 ⟨rfl, rfl⟩
  refine hK _ _ ⟨HA.out, HB.out, HA.out 0 _ rfl, HB.out 0 _ rfl, HA.out 18 _ rfl, HB.out 18 _ rfl⟩ ?_
  clear hK K
  try simp only [List.getElem_toArray, List.getElem_cons_succ, List.getElem_cons_zero, Act.put, List.setIfInBounds_toArray, List.set_cons_zero, List.set_cons_succ]
  repeat (first | (refine plan_skip rfl rfl ?_; simp only [List.getElem_toArray, List.getElem_cons_succ, List.getElem_cons_zero, Act.put, List.setIfInBounds_toArray, List.set_cons_zero, List.set_cons_succ]) | (refine plan_pass2 rfl rfl ?_; simp only [List.getElem_toArray, List.getElem_cons_succ, List.getElem_cons_zero, Act.put, List.setIfInBounds_toArray, List.set_cons_zero, List.set_cons_succ]) | (refine plan_pass3 rfl rfl ?_; simp only [List.getElem_toArray, List.getElem_cons_succ, List.getElem_cons_zero, Act.put, List.setIfInBounds_toArray, List.set_cons_zero, List.set_cons_succ]) | (refine plan_take (v := ?_) rfl rfl ?_ ?_; rotate_left; (focus (intro w0; go_simp; try with_reducible rfl)); simp only [List.getElem_toArray, List.getElem_cons_succ, List.getElem_cons_zero, Act.put, List.setIfInBounds_toArray, List.set_cons_zero, List.set_cons_succ]) | (refine plan_held (v := ?_) rfl rfl ⟨HA.out, HB.out, HA.out 0 _ rfl, HB.out 0 _ rfl, HA.out 18 _ rfl, HB.out 18 _ rfl⟩ ?_ ?_; rotate_left; (focus (intro w0 hSw; (try dsimp only at hSw); go_split_ands; go_simp; try with_reducible rfl)); simp only [List.getElem_toArray, List.getElem_cons_succ, List.getElem_cons_zero, Act.put, List.setIfInBounds_toArray, List.set_cons_zero, List.set_cons_succ])  | (refine plan_skip1 rfl rfl ⟨HA.out, HB.out, HA.out 0 _ rfl, HB.out 0 _ rfl, HA.out 18 _ rfl, HB.out 18 _ rfl⟩ ?_; simp only [List.getElem_toArray, List.getElem_cons_succ, List.getElem_cons_zero, Act.put, List.setIfInBounds_toArray, List.set_cons_zero, List.set_cons_succ]))
  (refine plan_do rfl rfl fun K hK => ?_; try simp only [List.getElem_toArray, List.getElem_cons_succ, List.getElem_cons_zero])
  go_simp
  have hN := allocNew W2 (.cells #[.int .i64 0, .int .i64 0, .int .i64 (-1)] 3)
  have hm : Mod (fun _ => False) W2 (W2.alloc (.cells #[.int .i64 0, .int .i64 0, .int .i64 (-1)] 3)) := (Mod.refl _ W2).alloc _
  have HN := Lib.hid hN
  clear hN
  replace HA := Lib.hid (keepRange hm HA.out)
  replace HB := Lib.hid (keepRange hm HB.out)
  replace HM := Lib.hid (HM.out.trans hm fun _ f => f.elim)
  refine hK _ _ ⟨HA.out, HB.out, HA.out 0 _ rfl, HB.out 0 _ rfl, HA.out 18 _ rfl, HB.out 18 _ rfl⟩ ?_
  clear hK K hm
  try simp only [List.getElem_toArray, List.getElem_cons_succ, List.getElem_cons_zero, Act.put, List.setIfInBounds_toArray, List.set_cons_zero, List.set_cons_succ]
  repeat (first | (refine plan_skip rfl rfl ?_; simp only [List.getElem_toArray, List.getElem_cons_succ, List.getElem_cons_zero, Act.put, List.setIfInBounds_toArray, List.set_cons_zero, List.set_cons_succ]) | (refine plan_pass2 rfl rfl ?_; simp only [List.getElem_toArray, List.getElem_cons_succ, List.getElem_cons_zero, Act.put, List.setIfInBounds_toArray, List.set_cons_zero, List.set_cons_succ]) | (refine plan_pass3 rfl rfl ?_; simp only [List.getElem_toArray, List.getElem_cons_succ, List.getElem_cons_zero, Act.put, List.setIfInBounds_toArray, List.set_cons_zero, List.set_cons_succ]) | (refine plan_take (v := ?_) rfl rfl ?_ ?_; rotate_left; (focus (intro w0; go_simp; try with_reducible rfl)); simp only [List.getElem_toArray, List.getElem_cons_succ, List.getElem_cons_zero, Act.put, List.setIfInBounds_toArray, List.set_cons_zero, List.set_cons_succ]) | (refine plan_held (v := ?_) rfl rfl ⟨HA.out, HB.out, HA.out 0 _ rfl, HB.out 0 _ rfl, HA.out 18 _ rfl, HB.out 18 _ rfl⟩ ?_ ?_; rotate_left; (focus (intro w0 hSw; (try dsimp only at hSw); go_split_ands; go_simp; try with_reducible rfl)); simp only [List.getElem_toArray, List.getElem_cons_succ, List.getElem_cons_zero, Act.put, List.setIfInBounds_toArray, List.set_cons_zero, List.set_cons_succ])  | (refine plan_skip1 rfl rfl ⟨HA.out, HB.out, HA.out 0 _ rfl, HB.out 0 _ rfl, HA.out 18 _ rfl, HB.out 18 _ rfl⟩ ?_; simp only [List.getElem_toArray, List.getElem_cons_succ, List.getElem_cons_zero, Act.put, List.setIfInBounds_toArray, List.set_cons_zero, List.set_cons_succ]))
  (refine plan_do rfl rfl fun K hK => ?_; try simp only [List.getElem_toArray, List.getElem_cons_succ, List.getElem_cons_zero])
  go_simp
  refine (Or_3 W2.heap.size (-1) (by decide) _ (cellOf HN.out 0) (cellOf HN.out 1) (cellOf HN.out 2)).mono ?_; rintro e W4 ⟨rfl, rfl⟩
  refine hK _ _ ⟨HA.out, HB.out, HA.out 0 _ rfl, HB.out 0 _ rfl, HA.out 18 _ rfl, HB.out 18 _ rfl⟩ ?_
  clear hK K
  try simp only [List.getElem_toArray, List.getElem_cons_succ, List.getElem_cons_zero, Act.put, List.setIfInBounds_toArray, List.set_cons_zero, List.set_cons_succ]
  repeat (first | (refine plan_skip rfl rfl ?_; simp only [List.getElem_toArray, List.getElem_cons_succ, List.getElem_cons_zero, Act.put, List.setIfInBounds_toArray, List.set_cons_zero, List.set_cons_succ]) | (refine plan_pass2 rfl rfl ?_; simp only [List.getElem_toArray, List.getElem_cons_succ, List.getElem_cons_zero, Act.put, List.setIfInBounds_toArray, List.set_cons_zero, List.set_cons_succ]) | (refine plan_pass3 rfl rfl ?_; simp only [List.getElem_toArray, List.getElem_cons_succ, List.getElem_cons_zero, Act.put, List.setIfInBounds_toArray, List.set_cons_zero, List.set_cons_succ]) | (refine plan_take (v := ?_) rfl rfl ?_ ?_; rotate_left; (focus (intro w0; go_simp; try with_reducible rfl)); simp only [List.getElem_toArray, List.getElem_cons_succ, List.getElem_cons_zero, Act.put, List.setIfInBounds_toArray, List.set_cons_zero, List.set_cons_succ]) | (refine plan_held (v := ?_) rfl rfl ⟨HA.out, HB.out, HA.out 0 _ rfl, HB.out 0 _ rfl, HA.out 18 _ rfl, HB.out 18 _ rfl⟩ ?_ ?_; rotate_left; (focus (intro w0 hSw; (try dsimp only at hSw); go_split_ands; go_simp; try with_reducible rfl)); simp only [List.getElem_toArray, List.getElem_cons_succ, List.getElem_cons_zero, Act.put, List.setIfInBounds_toArray, List.set_cons_zero, List.set_cons_succ])  | (refine plan_skip1 rfl rfl ⟨HA.out, HB.out, HA.out 0 _ rfl, HB.out 0 _ rfl, HA.out 18 _ rfl, HB.out 18 _ rfl⟩ ?_; simp only [List.getElem_toArray, List.getElem_cons_succ, List.getElem_cons_zero, Act.put, List.setIfInBounds_toArray, List.set_cons_zero, List.set_cons_succ]))
  refine plan_nil ?_
  go_wp2
  go_ret
  exact ⟨rfl, HM.out⟩
end Go.Proofs.Yteekmlgcakhclaa
