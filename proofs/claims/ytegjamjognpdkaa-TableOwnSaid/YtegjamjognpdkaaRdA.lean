/- octet.Reader: contracts: bytes are gone by, if there are so many. -/
import Derived.Test.YtegjamjognpdkaaRowP
import Derived.Test.YtegjamjognpdkaaReg
import Derived.Lib.Hide
import Derived.Handy
namespace Go.Proofs.Ytegjamjognpdkaa
open Go.RowKit
set_option linter.unusedVariables false
set_option linter.unusedSimpArgs false
def RdAt (w : World) (p : Nat) (s : ByteArray) (a : Nat) (bad : Bool) : Prop := w.heap[p]? = some (.cells #[.string s, .int .i64 (a : Int), .bool bad] 99 (0, 0))
def tkIs (s : ByteArray) (a : Nat) (bad : Bool) (n : Nat) : Prop := bad = false ∧ a + n ≤ s.size
instance (s : ByteArray) (a : Nat) (bad : Bool) (n : Nat) : Decidable (tkIs s a bad n) := inferInstanceAs (Decidable (_ ∧ _))
def tkS (s : ByteArray) (a : Nat) (bad : Bool) (n : Nat) : ByteArray := if tkIs s a bad n then s.extract a (a + n) else ⟨#[]⟩
def tkA (s : ByteArray) (a : Nat) (bad : Bool) (n : Nat) : Nat := if tkIs s a bad n then a + n else a
def tkB (s : ByteArray) (a : Nat) (bad : Bool) (n : Nat) : Bool := if tkIs s a bad n then false else true
theorem tk_yes {s : ByteArray} {a n : Nat} {bad : Bool} (h : tkIs s a bad n) : tkS s a bad n = s.extract a (a + n) ∧ tkA s a bad n = a + n ∧ tkB s a bad n = false := ⟨if_pos h, if_pos h, if_pos h⟩
theorem tk_no {s : ByteArray} {a n : Nat} {bad : Bool} (h : ¬ tkIs s a bad n) : tkS s a bad n = ⟨#[]⟩ ∧ tkA s a bad n = a ∧ tkB s a bad n = true := ⟨if_neg h, if_neg h, if_neg h⟩
theorem within_any (n : Nat) (h : n ≤ 8) (w : World) : Calls Try.prog 67 #[.int .i64 (n : Int), .int .i64 0, .int .i64 8] w fun e w' => e = .returned (.int .i64 (n : Int)) ∧ w = w' := by
  have h1 : max (n : Int) 0 = (n : Int) := by omega
  have h2 : min (n : Int) 8 = (n : Int) := by omega
  go_enter Try.func67, Try.ntmps67
  go_wp2
  go_ret
  exact ⟨rfl, rfl⟩
theorem new_any (s : ByteArray) (w : World) : Calls Try.prog 29 #[.string s] w fun e w' => e = .returned (.pointer (some ⟨w.heap.size, 0, none⟩)) ∧ RdAt w' w.heap.size s 0 false ∧ Mod (fun _ => False) w w' := by
  go_enter Try.func29, Try.ntmps29
  go_wp2
  go_ret
  exact ⟨rfl, allocNew w _, (Mod.refl _ _).alloc _⟩
section
variable {p : Nat} {s : ByteArray} {a : Nat} {bad : Bool}
theorem RdAt.c0 {w : World} (h : RdAt w p s a bad) : w.cell? ⟨p, 0, none⟩ = some (.string s) := by rw [cellOf h]; rfl
theorem RdAt.c1 {w : World} (h : RdAt w p s a bad) : w.cell? ⟨p, 1, none⟩ = some (.int .i64 (a : Int)) := by rw [cellOf h]; rfl
theorem RdAt.c2 {w : World} (h : RdAt w p s a bad) : w.cell? ⟨p, 2, none⟩ = some (.bool bad) := by rw [cellOf h]; rfl
theorem RdAt.fr {w : World} (h : RdAt w p s a bad) (i : Nat) : w.frozen? ⟨p, i, none⟩ = false := freeOf h i
theorem RdAt.keep {w w' : World} {F : Nat → Prop} (h : RdAt w p s a bad) (hm : Mod F w w') (hn : ¬ F p) : RdAt w' p s a bad := hm.keep h hn
theorem bad_any (w : World) (h : RdAt w p s a bad) : Calls Try.prog 31 #[.pointer (some ⟨p, 0, none⟩)] w fun e w' => e = .returned (.bool bad) ∧ w = w' := by
  have c2 := h.c2
  clear h
  go_enter Try.func31, Try.ntmps31
  go_wp2
  go_ret
  exact ⟨rfl, rfl⟩
theorem left_any (w : World) (h : RdAt w p s a bad) (ha : a ≤ s.size) (hs : s.size ≤ 1000) : Calls Try.prog 30 #[.pointer (some ⟨p, 0, none⟩)] w fun e w' => e = .returned (.int .i64 ((s.size - a : Nat) : Int)) ∧ Mod (fun _ => False) w w' := by
  have c0 := h.c0
  have c1 := h.c1
  clear h
  have e1 : IntKind.i64.wrap ((s.size : Int) - (a : Int)) = ((s.size - a : Nat) : Int) := by rw [show (s.size : Int) - (a : Int) = ((s.size - a : Nat) : Int) by omega]; exact IntWalk.i64_in _ (by omega)
  go_enter Try.func30, Try.ntmps30
  go_wp2_with fail
  have hS : w.drew.cell? ⟨p, 0, none⟩ = some (.string s) ∧ w.drew.cell? ⟨p, 1, none⟩ = some (.int .i64 (a : Int)) := ⟨c0, c1⟩
  refine wp_region_plan [] [(0, 0), (1, 0), (2, 0), (3, 1), (4, 0), (5, 0), (6, 0), (7, 0), (8, 1), (9, 0), (10, 0)] (fun w' : World => w'.cell? ⟨p, 0, none⟩ = some (.string s) ∧ w'.cell? ⟨p, 1, none⟩ = some (.int .i64 (a : Int))) (by kernel_rfl) (by kernel_rfl) (fun d _ _ _ _ h => by cases d <;> exact h) ?_
  repeat (first | (refine plan_skip rfl rfl ?_; simp only [List.getElem_toArray, List.getElem_cons_succ, List.getElem_cons_zero, Act.put, List.setIfInBounds_toArray, List.set_cons_zero, List.set_cons_succ]) | (refine plan_pass2 rfl rfl ?_; simp only [List.getElem_toArray, List.getElem_cons_succ, List.getElem_cons_zero, Act.put, List.setIfInBounds_toArray, List.set_cons_zero, List.set_cons_succ]) | (refine plan_pass3 rfl rfl ?_; simp only [List.getElem_toArray, List.getElem_cons_succ, List.getElem_cons_zero, Act.put, List.setIfInBounds_toArray, List.set_cons_zero, List.set_cons_succ]) | (refine plan_take (v := ?_) rfl rfl ?_ ?_; rotate_left; (focus (intro w0; go_simp; try with_reducible rfl)); simp only [List.getElem_toArray, List.getElem_cons_succ, List.getElem_cons_zero, Act.put, List.setIfInBounds_toArray, List.set_cons_zero, List.set_cons_succ]) | (refine plan_held (v := ?_) rfl rfl hS ?_ ?_; rotate_left; (focus (intro w0 hSw; (try dsimp only at hSw); go_split_ands; go_simp; try with_reducible rfl)); simp only [List.getElem_toArray, List.getElem_cons_succ, List.getElem_cons_zero, Act.put, List.setIfInBounds_toArray, List.set_cons_zero, List.set_cons_succ])  | (refine plan_skip1 rfl rfl hS ?_; simp only [List.getElem_toArray, List.getElem_cons_succ, List.getElem_cons_zero, Act.put, List.setIfInBounds_toArray, List.set_cons_zero, List.set_cons_succ]))
  refine plan_nil ?_
  go_wp2
  go_ret
  exact ⟨rfl, (Mod.refl _ _).drew⟩
end
end Go.Proofs.Ytegjamjognpdkaa
