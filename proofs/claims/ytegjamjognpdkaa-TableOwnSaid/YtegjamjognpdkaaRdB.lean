/- octet.Reader: take, Take, num, Num. -/
import Derived.Test.YtegjamjognpdkaaRdA
import Derived.Laws.BitsLemmas
import Derived.Lib.VarintBits
namespace Go.Proofs.Ytegjamjognpdkaa
open Go.RowKit
set_option linter.unusedVariables false
set_option linter.unusedSimpArgs false
section
variable {p : Nat} {s : ByteArray} {a : Nat} {bad : Bool}
theorem RdAt.set {w : World} (h : RdAt w p s a bad) (a' : Nat) (bad' : Bool) : RdAt ((w.setCell ⟨p, 1, none⟩ (.int .i64 (a' : Int))).setCell ⟨p, 2, none⟩ (.bool bad')) p s a' bad' := setOf (setOf h 1 _) 2 _
theorem RdAt.set1 {w : World} (h : RdAt w p s a bad) (a' : Nat) : RdAt (w.setCell ⟨p, 1, none⟩ (.int .i64 (a' : Int))) p s a' bad := setOf h 1 _
theorem RdAt.set2 {w : World} (h : RdAt w p s a bad) (bad' : Bool) : RdAt (w.setCell ⟨p, 2, none⟩ (.bool bad')) p s a bad' := setOf h 2 _
theorem take_bad (n : Nat) (w : World) (h : RdAt w p s a true) : Calls Try.prog 66 #[.pointer (some ⟨p, 0, none⟩), .int .i64 (n : Int)] w fun e w' => e = .returned (.string ⟨#[]⟩) ∧ w = w' := by
  have c2 := h.c2
  clear h
  go_enter Try.func66, Try.ntmps66
  go_wp2
  go_ret
  exact ⟨rfl, rfl⟩
theorem take_no (n : Nat) (hn : n ≤ 16) (w : World) (h : RdAt w p s a false) (ha : a ≤ s.size) (hs : s.size ≤ 1000) (hf : ¬ a + n ≤ s.size) : Calls Try.prog 66 #[.pointer (some ⟨p, 0, none⟩), .int .i64 (n : Int)] w fun e w' => e = .returned (.string ⟨#[]⟩) ∧ RdAt w' p s a true ∧ Mod (fun k => k = p) w w' := by
  have c0 := h.c0
  have c1 := h.c1
  have c2 := h.c2
  have f1 := h.fr 1
  have f2 := h.fr 2
  have H := Lib.hid h
  clear h
  have h1 : max (n : Int) 0 = (n : Int) := by omega
  have e1 : IntKind.i64.wrap ((s.size : Int) - (a : Int)) = ((s.size - a : Nat) : Int) := by rw [show (s.size : Int) - (a : Int) = ((s.size - a : Nat) : Int) by omega]; exact IntWalk.i64_in _ (by omega)
  have g1 : s.size - a < n := by omega
  have HR := Lib.hid (RdAt.set2 (w := w.drew) H.out true)
  have HM : Hid (Mod (fun k => k = p) w (w.drew.setCell ⟨p, 2, none⟩ (.bool true))) := Lib.hid ((Mod.refl (fun k => k = p) w).drew.setCell (p := ⟨p, 2, none⟩) (.inl rfl) _)
  clear H
  go_enter Try.func66, Try.ntmps66
  go_wp2_with fail
  have hS : w.drew.cell? ⟨p, 0, none⟩ = some (.string s) ∧ w.drew.cell? ⟨p, 1, none⟩ = some (.int .i64 (a : Int)) := ⟨c0, c1⟩
  refine wp_region_plan [] [(0, 0), (1, 0), (2, 0), (3, 0), (4, 1), (5, 0), (6, 0), (7, 0), (8, 0), (9, 1), (10, 0), (11, 0)] (fun w' : World => w'.cell? ⟨p, 0, none⟩ = some (.string s) ∧ w'.cell? ⟨p, 1, none⟩ = some (.int .i64 (a : Int))) (by kernel_rfl) (by kernel_rfl) (fun d _ _ _ _ h => by cases d <;> exact h) ?_
  repeat (first | (refine plan_skip rfl rfl ?_; simp only [List.getElem_toArray, List.getElem_cons_succ, List.getElem_cons_zero, Act.put, List.setIfInBounds_toArray, List.set_cons_zero, List.set_cons_succ]) | (refine plan_pass2 rfl rfl ?_; simp only [List.getElem_toArray, List.getElem_cons_succ, List.getElem_cons_zero, Act.put, List.setIfInBounds_toArray, List.set_cons_zero, List.set_cons_succ]) | (refine plan_pass3 rfl rfl ?_; simp only [List.getElem_toArray, List.getElem_cons_succ, List.getElem_cons_zero, Act.put, List.setIfInBounds_toArray, List.set_cons_zero, List.set_cons_succ]) | (refine plan_take (v := ?_) rfl rfl ?_ ?_; rotate_left; (focus (intro w0; go_simp; try with_reducible rfl)); simp only [List.getElem_toArray, List.getElem_cons_succ, List.getElem_cons_zero, Act.put, List.setIfInBounds_toArray, List.set_cons_zero, List.set_cons_succ]) | (refine plan_held (v := ?_) rfl rfl hS ?_ ?_; rotate_left; (focus (intro w0 hSw; (try dsimp only at hSw); go_split_ands; go_simp; try with_reducible rfl)); simp only [List.getElem_toArray, List.getElem_cons_succ, List.getElem_cons_zero, Act.put, List.setIfInBounds_toArray, List.set_cons_zero, List.set_cons_succ])  | (refine plan_skip1 rfl rfl hS ?_; simp only [List.getElem_toArray, List.getElem_cons_succ, List.getElem_cons_zero, Act.put, List.setIfInBounds_toArray, List.set_cons_zero, List.set_cons_succ]))
  refine plan_nil ?_
  go_wp2
  go_ret
  exact ⟨rfl, HR.out, HM.out⟩
theorem take_yes (n : Nat) (hn : n ≤ 16) (w : World) (h : RdAt w p s a false) (hs : s.size ≤ 1000) (hf : a + n ≤ s.size) : Calls Try.prog 66 #[.pointer (some ⟨p, 0, none⟩), .int .i64 (n : Int)] w fun e w' => e = .returned (.string (s.extract a (a + n))) ∧ RdAt w' p s (a + n) false ∧ Mod (fun k => k = p) w w' := by
  have c0 := h.c0
  have c1 := h.c1
  have c2 := h.c2
  have f1 := h.fr 1
  have f2 := h.fr 2
  have H := Lib.hid h
  clear h
  have h1 : max (n : Int) 0 = (n : Int) := by omega
  have e1 : IntKind.i64.wrap ((s.size : Int) - (a : Int)) = ((s.size - a : Nat) : Int) := by rw [show (s.size : Int) - (a : Int) = ((s.size - a : Nat) : Int) by omega]; exact IntWalk.i64_in _ (by omega)
  have g1 : ¬ s.size - a < n := by omega
  obtain ⟨q, hq⟩ : ∃ q, q = a + n := ⟨_, rfl⟩
  have e2 : IntKind.i64.wrap ((a : Int) + (n : Int)) = (q : Int) := by rw [show (a : Int) + (n : Int) = (q : Int) by omega]; exact IntWalk.i64_in _ (by omega)
  have e3 : IntKind.i64.wrap ((q : Int) - (n : Int)) = (a : Int) := by rw [show (q : Int) - (n : Int) = (a : Int) by omega]; exact IntWalk.i64_in _ (by omega)
  have hqs : q ≤ s.size := by omega
  have haq : a ≤ q := by omega
  rw [← hq]
  clear hq hf
  have HR := Lib.hid (RdAt.set1 (w := w) H.out q)
  have HM : Hid (Mod (fun k => k = p) w (w.setCell ⟨p, 1, none⟩ (.int .i64 (q : Int)))) := Lib.hid ((Mod.refl (fun k => k = p) w).setCell (p := ⟨p, 1, none⟩) (.inl rfl) _)
  clear H
  go_enter Try.func66, Try.ntmps66
  go_wp2_with fail
  have hS : w.drew.cell? ⟨p, 0, none⟩ = some (.string s) ∧ w.drew.cell? ⟨p, 1, none⟩ = some (.int .i64 (a : Int)) := ⟨c0, c1⟩
  refine wp_region_plan [] [(0, 0), (1, 0), (2, 0), (3, 0), (4, 1), (5, 0), (6, 0), (7, 0), (8, 0), (9, 1), (10, 0), (11, 0)] (fun w' : World => w'.cell? ⟨p, 0, none⟩ = some (.string s) ∧ w'.cell? ⟨p, 1, none⟩ = some (.int .i64 (a : Int))) (by kernel_rfl) (by kernel_rfl) (fun d _ _ _ _ h => by cases d <;> exact h) ?_
  repeat (first | (refine plan_skip rfl rfl ?_; simp only [List.getElem_toArray, List.getElem_cons_succ, List.getElem_cons_zero, Act.put, List.setIfInBounds_toArray, List.set_cons_zero, List.set_cons_succ]) | (refine plan_pass2 rfl rfl ?_; simp only [List.getElem_toArray, List.getElem_cons_succ, List.getElem_cons_zero, Act.put, List.setIfInBounds_toArray, List.set_cons_zero, List.set_cons_succ]) | (refine plan_pass3 rfl rfl ?_; simp only [List.getElem_toArray, List.getElem_cons_succ, List.getElem_cons_zero, Act.put, List.setIfInBounds_toArray, List.set_cons_zero, List.set_cons_succ]) | (refine plan_take (v := ?_) rfl rfl ?_ ?_; rotate_left; (focus (intro w0; go_simp; try with_reducible rfl)); simp only [List.getElem_toArray, List.getElem_cons_succ, List.getElem_cons_zero, Act.put, List.setIfInBounds_toArray, List.set_cons_zero, List.set_cons_succ]) | (refine plan_held (v := ?_) rfl rfl hS ?_ ?_; rotate_left; (focus (intro w0 hSw; (try dsimp only at hSw); go_split_ands; go_simp; try with_reducible rfl)); simp only [List.getElem_toArray, List.getElem_cons_succ, List.getElem_cons_zero, Act.put, List.setIfInBounds_toArray, List.set_cons_zero, List.set_cons_succ])  | (refine plan_skip1 rfl rfl hS ?_; simp only [List.getElem_toArray, List.getElem_cons_succ, List.getElem_cons_zero, Act.put, List.setIfInBounds_toArray, List.set_cons_zero, List.set_cons_succ]))
  refine plan_nil ?_
  go_wp2_with fail
  obtain ⟨W1, hW1⟩ : ∃ W1, W1 = w.setCell ⟨p, 1, none⟩ (.int .i64 (q : Int)) := ⟨_, rfl⟩
  rw [← hW1] at HR HM ⊢
  have d0 := HR.out.c0
  have d1 := HR.out.c1
  have hS1 : W1.drew.cell? ⟨p, 0, none⟩ = some (.string s) ∧ W1.drew.cell? ⟨p, 1, none⟩ = some (.int .i64 (q : Int)) := ⟨d0, d1⟩
  clear hW1
  refine wp_region_plan [] [(0, 0), (1, 0), (2, 0), (3, 1), (4, 0), (5, 0), (6, 0), (7, 1), (8, 0), (9, 0), (10, 0), (11, 0), (12, 0), (13, 1), (14, 0), (15, 0)] (fun w' : World => w'.cell? ⟨p, 0, none⟩ = some (.string s) ∧ w'.cell? ⟨p, 1, none⟩ = some (.int .i64 (q : Int))) (by kernel_rfl) (by kernel_rfl) (fun d _ _ _ _ h => by cases d <;> exact h) ?_
  repeat (first | (refine plan_skip rfl rfl ?_; simp only [List.getElem_toArray, List.getElem_cons_succ, List.getElem_cons_zero, Act.put, List.setIfInBounds_toArray, List.set_cons_zero, List.set_cons_succ]) | (refine plan_pass2 rfl rfl ?_; simp only [List.getElem_toArray, List.getElem_cons_succ, List.getElem_cons_zero, Act.put, List.setIfInBounds_toArray, List.set_cons_zero, List.set_cons_succ]) | (refine plan_pass3 rfl rfl ?_; simp only [List.getElem_toArray, List.getElem_cons_succ, List.getElem_cons_zero, Act.put, List.setIfInBounds_toArray, List.set_cons_zero, List.set_cons_succ]) | (refine plan_take (v := ?_) rfl rfl ?_ ?_; rotate_left; (focus (intro w0; go_simp; try with_reducible rfl)); simp only [List.getElem_toArray, List.getElem_cons_succ, List.getElem_cons_zero, Act.put, List.setIfInBounds_toArray, List.set_cons_zero, List.set_cons_succ]) | (refine plan_held (v := ?_) rfl rfl hS1 ?_ ?_; rotate_left; (focus (intro w0 hSw; (try dsimp only at hSw); go_split_ands; go_simp; try with_reducible rfl)); simp only [List.getElem_toArray, List.getElem_cons_succ, List.getElem_cons_zero, Act.put, List.setIfInBounds_toArray, List.set_cons_zero, List.set_cons_succ])  | (refine plan_skip1 rfl rfl hS1 ?_; simp only [List.getElem_toArray, List.getElem_cons_succ, List.getElem_cons_zero, Act.put, List.setIfInBounds_toArray, List.set_cons_zero, List.set_cons_succ]))
  refine plan_nil ?_
  go_wp2
  go_ret
  exact ⟨rfl, HR.out, HM.out.drew.drew⟩
theorem take_any (n : Nat) (hn : n ≤ 16) (w : World) (h : RdAt w p s a bad) (ha : a ≤ s.size) (hs : s.size ≤ 1000) : Calls Try.prog 66 #[.pointer (some ⟨p, 0, none⟩), .int .i64 (n : Int)] w fun e w' => e = .returned (.string (tkS s a bad n)) ∧ RdAt w' p s (tkA s a bad n) (tkB s a bad n) ∧ Mod (fun k => k = p) w w' := by
  cases bad with
  | true =>
    obtain ⟨t1, t2, t3⟩ := tk_no (fun h => by cases h.1 : ¬ tkIs s a true n)
    rw [t1, t2, t3]
    refine (take_bad n w h).mono fun e w' ⟨h1, h2⟩ => ⟨h1, ?_⟩
    subst h2
    exact ⟨h, Mod.refl _ _⟩
  | false =>
    by_cases hf : a + n ≤ s.size
    · obtain ⟨t1, t2, t3⟩ := tk_yes (⟨rfl, hf⟩ : tkIs s a false n)
      rw [t1, t2, t3]
      exact take_yes n hn w h hs hf
    · obtain ⟨t1, t2, t3⟩ := tk_no (fun h => hf h.2 : ¬ tkIs s a false n)
      rw [t1, t2, t3]
      exact take_no n hn w h ha hs hf
theorem Take_any (n : Nat) (hn : n ≤ 16) (w : World) (h : RdAt w p s a bad) (ha : a ≤ s.size) (hs : s.size ≤ 1000) : Calls Try.prog 52 #[.pointer (some ⟨p, 0, none⟩), .int .i64 (n : Int)] w fun e w' => e = .returned (.string (tkS s a bad n)) ∧ RdAt w' p s (tkA s a bad n) (tkB s a bad n) ∧ Mod (fun k => k = p) w w' := by
  go_enter Try.func52, Try.ntmps52
  go_wp2_with fail
  refine (take_any n hn _ h ha hs).mono ?_; rintro e w1 ⟨rfl, hR, hM⟩
  have HR := Lib.hid hR
  have HM := Lib.hid hM
  clear hR hM h
  go_wp2
  go_ret
  exact ⟨rfl, HR.out, HM.out⟩
end
/-- the number that so many bytes are, at most two -/
def numB (s : ByteArray) (i : Nat) : Nat → Int
  | 0 => 0
  | 1 => byt s i
  | _ => num2 s i
theorem numB_bd (s : ByteArray) (i n : Nat) : 0 ≤ numB s i n ∧ numB s i n < 65536 := by
  have := byt_bd s i
  have := num2_bd s i
  unfold numB
  split <;> omega
theorem numB_step (s : ByteArray) (i j : Nat) (hj : j < 2) : 256 * numB s i j + byt s (i + j) = numB s i (j + 1) := by
  rcases (show j = 0 ∨ j = 1 by omega) with rfl | rfl
  · simp [numB]
  · simp [numB, num2]
theorem byt_get (s : ByteArray) (j : Nat) (h : j < s.size) : byt s j = ((s[j].toNat : Nat) : Int) := by
  have h' : j < s.data.toList.length := by simpa using h
  unfold byt
  rw [List.getElem?_eq_getElem h']
  simp
  rfl
theorem num_or (s : ByteArray) (j : Nat) (hj : j < 2) : bits .or .u64 (IntKind.u64.wrap (numB s 0 j * 256)) (byt s j) = numB s 0 (j + 1) := by
  have h1 := numB_bd s 0 j
  have h2 := byt_bd s j
  have h3 := numB_step s 0 j hj
  rw [Nat.zero_add] at h3
  have h4 : IntKind.u64.wrap (numB s 0 j * 256) = numB s 0 j * 256 := IntWalk.u64_in _ (by omega)
  rw [h4, bits_join .u64 64 (by decide) wraps_u64 8 _ _ (by omega) (by omega) (by omega) (by omega) (by omega) (by omega)]
  omega
theorem num_any (s : ByteArray) (hs : s.size ≤ 2) (w : World) : Calls Try.prog 65 #[.string s] w fun e w' => e = .returned (.int .u64 (numB s 0 s.size)) ∧ w = w' := by
  go_enter Try.func65, Try.ntmps65
  go_wp2
  go_loop [3, 7] (fun a i => ∃ j : Nat, j ≤ s.size ∧ i = .int .i64 (j : Int) ∧ a = .int .u64 (numB s 0 j)) (fun _ i => s.size - (intOf i).toNat)
  case atStart => exact ⟨0, Nat.zero_le _, rfl, rfl⟩
  case round =>
    obtain ⟨j, hj, rfl, rfl⟩ := hrel
    by_cases hlt : j < s.size
    · have e0 : IntKind.u64.wrap ((s[j].toNat : Nat) : Int) = byt s j := by
        rw [byt_get s j hlt]
        exact IntWalk.u64_in _ (by have := s[j].toNat_lt; omega)
      have e1 := num_or s j (by omega)
      go_wp2
      go_round
      case rel => exact ⟨j + 1, by omega, by go_num, rfl⟩
      case measure => simp [intOf]; omega
    · obtain rfl : j = s.size := by omega
      go_wp2
      go_ret
      exact ⟨rfl, rfl⟩
end Go.Proofs.Ytegjamjognpdkaa
