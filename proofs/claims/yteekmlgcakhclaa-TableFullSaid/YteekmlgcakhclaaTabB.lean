/- table.good of the rows of TableFull. -/
import Derived.Test.YteekmlgcakhclaaTabA
import Derived.Lib.Hide
import Derived.Handy
namespace Go.Proofs.Yteekmlgcakhclaa
open Go.RowKit
set_option linter.unusedVariables false
set_option linter.unusedSimpArgs false
def rowsF : Nat → List Nat → List Value
  | _, [] => []
  | i, b :: r => rowC i b ++ rowsF (i + 1) r
theorem rowC_len (i b : Nat) : (rowC i b).length = 20 := rfl
theorem rowsF_snoc : ∀ (bs : List Nat) (i b : Nat), rowsF i (bs ++ [b]) = rowsF i bs ++ rowC (i + bs.length) b
  | [], i, b => by simp [rowsF]
  | c :: r, i, b => by
    show rowC i c ++ rowsF (i + 1) (r ++ [b]) = (rowC i c ++ rowsF (i + 1) r) ++ rowC (i + (r.length + 1)) b
    rw [rowsF_snoc r (i + 1) b, List.append_assoc, show i + 1 + r.length = i + (r.length + 1) by omega]
theorem rowsF_len : ∀ (bs : List Nat) (i : Nat), (rowsF i bs).length = bs.length * 20
  | [], i => rfl
  | c :: r, i => by
    show (rowC i c ++ rowsF (i + 1) r).length = (r.length + 1) * 20
    rw [List.length_append, rowsF_len r, rowC_len]; omega
theorem rowsF_get : ∀ (bs : List Nat) (i k b j : Nat) (u : Value), bs[k]? = some b → (rowC (i + k) b)[j]? = some u → (rowsF i bs)[k * 20 + j]? = some u
  | [], i, k, b, j, u, h, _ => by simp at h
  | c :: r, i, 0, b, j, u, h, hu => by
    simp at h
    subst h
    have hj : j < 20 := by have := (List.getElem?_eq_some_iff.1 hu).1; rwa [rowC_len] at this
    show (rowC i c ++ rowsF (i + 1) r)[0 * 20 + j]? = some u
    rw [List.getElem?_append_left (by rw [rowC_len]; omega)]
    simpa using hu
  | c :: r, i, k + 1, b, j, u, h, hu => by
    show (rowC i c ++ rowsF (i + 1) r)[(k + 1) * 20 + j]? = some u
    rw [List.getElem?_append_right (by rw [rowC_len]; omega), rowC_len, show (k + 1) * 20 + j - 20 = k * 20 + j by omega]
    exact rowsF_get r (i + 1) k b j u (by simpa using h) (by rwa [show i + 1 + k = i + (k + 1) by omega])
/-- rows that lie in a block, one behind another; each one's list in a block of its own -/
def TRows (w : World) (v : Value) (n : Nat) (bs : List Nat) : Prop := ∃ a cap, v = .slice a n cap ∧ n ≤ cap ∧ cap ≤ maxLen ∧ bs.length = n ∧
  (0 < n → ∃ g o, a = some ⟨g, o, none⟩ ∧ ∀ k b, bs[k]? = some b → w.rangeAt g (o + k * 20) (rowC k b)) ∧ ∀ (k b : Nat), bs[k]? = some b → w.cell? ⟨b, 0, none⟩ = some (.int .i64 1)
set_option maxRecDepth 100000 in
set_option maxHeartbeats 2000000 in
theorem good_t (v : Value) (n : Nat) (bs : List Nat) (w : World) (h : TRows w v n bs) (hn : n ≤ 3000) :
    Calls Try.prog 22 #[v] w fun e w' => e = .returned (.bool (decide (n ≤ 2048))) ∧ Mod (fun _ => False) w w' := by
  obtain ⟨a, cap, rfl, hnc, hcm, hl, hg, hb⟩ := h
  have hcm' : cap ≤ 9223372036854775807 := by unfold maxLen at hcm; omega
  have HG := Lib.hid hg
  have HB := Lib.hid hb
  have HL := Lib.hid hl
  have HI29 : Hid ((Try.prog.info? 29).map (·.size) = some 20) := Lib.hid rowSize
  clear hg hb hl hcm
  go_enter Try.func22, Try.ntmps22
  go_wp2_with fail
  go_loopw [7] (fun i wr => ∃ j : Nat, j ≤ n ∧ i = .int .i64 j ∧ Mod (fun _ => False) w wr) (fun i _ => n - (intOf i).toNat)
  case atStart => exact ⟨0, Nat.zero_le _, rfl, Mod.refl _ _⟩
  case round =>
    obtain ⟨j, hj, rfl, hm⟩ := hrel
    have HM := Lib.hid hm
    clear hm
    by_cases hlt : j < n
    · have hki : (j : Int) < (n : Int) := by omega
      obtain ⟨g, o, rfl, hgr⟩ := HG.out (by omega)
      have HGR := Lib.hid hgr
      obtain ⟨b, hbj⟩ : ∃ b, bs[j]? = some b := ⟨_, List.getElem?_eq_getElem (by rw [HL.out]; exact hlt)⟩
      have HR : Hid (wr.rangeAt g (o + j * 20) [.int .i64 1, .bool false, .int .u8 239, .int .u8 1, .int .u8 1, .int .u8 1, .int .u8 0, .int .u8 0, .int .u8 0, .int .u8 0, .int .u8 0, .int .u8 0, .int .u8 0, .int .u8 0, .int .u8 0, .int .u8 0, .int .u8 0, .int .u8 0, .int .i64 j, .slice (some ⟨b, 0, none⟩) 1 1]) := Lib.hid (keepRange HM.out (hgr j b hbj))
      have HC := Lib.hid (HM.out.cell (fun f => f) (HB.out j b hbj))
      clear hgr
      have hg0 := allocNew wr (.cells #[.int .i64 0, .bool false, .int .u8 0, .int .u8 0, .int .u8 0, .int .u8 0, .int .u8 0, .int .u8 0, .int .u8 0, .int .u8 0, .int .u8 0, .int .u8 0, .int .u8 0, .int .u8 0, .int .u8 0, .int .u8 0, .int .u8 0, .int .u8 0, .int .i64 0, .slice none 0 0] 29)
      have htG : (wr.alloc (.cells #[.int .i64 0, .bool false, .int .u8 0, .int .u8 0, .int .u8 0, .int .u8 0, .int .u8 0, .int .u8 0, .int .u8 0, .int .u8 0, .int .u8 0, .int .u8 0, .int .u8 0, .int .u8 0, .int .u8 0, .int .u8 0, .int .u8 0, .int .u8 0, .int .i64 0, .slice none 0 0] 29)).there wr.heap.size 0 20 := thereOf hg0
      have hone : (#[.int .i64 1, .bool false, .int .u8 239, .int .u8 1, .int .u8 1, .int .u8 1, .int .u8 0, .int .u8 0, .int .u8 0, .int .u8 0, .int .u8 0, .int .u8 0, .int .u8 0, .int .u8 0, .int .u8 0, .int .u8 0, .int .u8 0, .int .u8 0, .int .i64 j, .slice (some ⟨b, 0, none⟩) 1 1] : Array Value).all (·.oneCell') = true := by simp [Value.oneCell']
      have HT := Lib.hid htG
      have HONE := Lib.hid hone
      have HRa := Lib.hid (keepRange ((Mod.refl (fun _ => False) wr).alloc (.cells #[.int .i64 0, .bool false, .int .u8 0, .int .u8 0, .int .u8 0, .int .u8 0, .int .u8 0, .int .u8 0, .int .u8 0, .int .u8 0, .int .u8 0, .int .u8 0, .int .u8 0, .int .u8 0, .int .u8 0, .int .u8 0, .int .u8 0, .int .u8 0, .int .i64 0, .slice none 0 0] 29)) HR.out)
      clear hg0 htG hone
      go_wp2_with (first | (refine wpList_load_mid rfl _ _ rfl g (o + j * 20) rfl [.int .i64 1, .bool false, .int .u8 239, .int .u8 1, .int .u8 1, .int .u8 1, .int .u8 0, .int .u8 0, .int .u8 0, .int .u8 0, .int .u8 0, .int .u8 0, .int .u8 0, .int .u8 0, .int .u8 0, .int .u8 0, .int .u8 0, .int .u8 0, .int .i64 j, .slice (some ⟨b, 0, none⟩) 1 1] _ HR.out Try.underlying29 rfl HI29.out ?_) | (refine wpList_load_mid rfl _ _ rfl g (o + j * 20) rfl [.int .i64 1, .bool false, .int .u8 239, .int .u8 1, .int .u8 1, .int .u8 1, .int .u8 0, .int .u8 0, .int .u8 0, .int .u8 0, .int .u8 0, .int .u8 0, .int .u8 0, .int .u8 0, .int .u8 0, .int .u8 0, .int .u8 0, .int .u8 0, .int .i64 j, .slice (some ⟨b, 0, none⟩) 1 1] _ HRa.out Try.underlying29 rfl HI29.out ?_) | (refine wpList_store_mid rfl _ _ _ rfl wr.heap.size 0 #[.int .i64 1, .bool false, .int .u8 239, .int .u8 1, .int .u8 1, .int .u8 1, .int .u8 0, .int .u8 0, .int .u8 0, .int .u8 0, .int .u8 0, .int .u8 0, .int .u8 0, .int .u8 0, .int .u8 0, .int .u8 0, .int .u8 0, .int .u8 0, .int .i64 j, .slice (some ⟨b, 0, none⟩) 1 1] rfl rfl HT.out HI29.out HONE.out ?_))
      have hmG : Mod (fun _ => False) wr ((wr.alloc (.cells #[.int .i64 0, .bool false, .int .u8 0, .int .u8 0, .int .u8 0, .int .u8 0, .int .u8 0, .int .u8 0, .int .u8 0, .int .u8 0, .int .u8 0, .int .u8 0, .int .u8 0, .int .u8 0, .int .u8 0, .int .u8 0, .int .u8 0, .int .u8 0, .int .i64 0, .slice none 0 0] 29)).setCells wr.heap.size 0 (#[.int .i64 1, .bool false, .int .u8 239, .int .u8 1, .int .u8 1, .int .u8 1, .int .u8 0, .int .u8 0, .int .u8 0, .int .u8 0, .int .u8 0, .int .u8 0, .int .u8 0, .int .u8 0, .int .u8 0, .int .u8 0, .int .u8 0, .int .u8 0, .int .i64 j, .slice (some ⟨b, 0, none⟩) 1 1] : Array Value).toList) := Mod.setCells _ 0 ((Mod.refl _ _).alloc _) (.inr (Nat.le_refl _))
      have hrG : ((wr.alloc (.cells #[.int .i64 0, .bool false, .int .u8 0, .int .u8 0, .int .u8 0, .int .u8 0, .int .u8 0, .int .u8 0, .int .u8 0, .int .u8 0, .int .u8 0, .int .u8 0, .int .u8 0, .int .u8 0, .int .u8 0, .int .u8 0, .int .u8 0, .int .u8 0, .int .i64 0, .slice none 0 0] 29)).setCells wr.heap.size 0 (#[.int .i64 1, .bool false, .int .u8 239, .int .u8 1, .int .u8 1, .int .u8 1, .int .u8 0, .int .u8 0, .int .u8 0, .int .u8 0, .int .u8 0, .int .u8 0, .int .u8 0, .int .u8 0, .int .u8 0, .int .u8 0, .int .u8 0, .int .u8 0, .int .i64 j, .slice (some ⟨b, 0, none⟩) 1 1] : Array Value).toList).rangeAt wr.heap.size 0 [.int .i64 1, .bool false, .int .u8 239, .int .u8 1, .int .u8 1, .int .u8 1, .int .u8 0, .int .u8 0, .int .u8 0, .int .u8 0, .int .u8 0, .int .u8 0, .int .u8 0, .int .u8 0, .int .u8 0, .int .u8 0, .int .u8 0, .int .u8 0, .int .i64 j, .slice (some ⟨b, 0, none⟩) 1 1] := World.rangeAt_setCells_same _ _ _ _ HT.out
      obtain ⟨WG, hWG⟩ : ∃ WG, WG = (wr.alloc (.cells #[.int .i64 0, .bool false, .int .u8 0, .int .u8 0, .int .u8 0, .int .u8 0, .int .u8 0, .int .u8 0, .int .u8 0, .int .u8 0, .int .u8 0, .int .u8 0, .int .u8 0, .int .u8 0, .int .u8 0, .int .u8 0, .int .u8 0, .int .u8 0, .int .i64 0, .slice none 0 0] 29)).setCells wr.heap.size 0 (#[.int .i64 1, .bool false, .int .u8 239, .int .u8 1, .int .u8 1, .int .u8 1, .int .u8 0, .int .u8 0, .int .u8 0, .int .u8 0, .int .u8 0, .int .u8 0, .int .u8 0, .int .u8 0, .int .u8 0, .int .u8 0, .int .u8 0, .int .u8 0, .int .i64 j, .slice (some ⟨b, 0, none⟩) 1 1] : Array Value).toList := ⟨_, rfl⟩
      obtain ⟨ps, hps⟩ : ∃ ps, ps = wr.heap.size := ⟨_, rfl⟩
      rw [← hWG] at hmG hrG
      rw [← hps] at hrG
      try simp only [List.toList_toArray] at hWG hmG hrG
      try rw [← hWG]
      try rw [← hps]
      have HS : Hid (WG.rangeAt ps 0 [.int .i64 1, .bool false, .int .u8 239, .int .u8 1, .int .u8 1, .int .u8 1, .int .u8 0, .int .u8 0, .int .u8 0, .int .u8 0, .int .u8 0, .int .u8 0, .int .u8 0, .int .u8 0, .int .u8 0, .int .u8 0, .int .u8 0, .int .u8 0, .int .i64 j, .slice (some ⟨b, 0, none⟩) 1 1]) := Lib.hid hrG
      replace HC := Lib.hid (hmG.cell (fun f => f) HC.out)
      replace HM := Lib.hid (HM.out.trans hmG fun _ f => f.elim)
      clear hrG hWG hps HT HONE HRa hmG HR
      replace HS := Lib.hid (keepRange (Mod.refl (fun _ => False) _).drew HS.out)
      replace HC := Lib.hid ((Mod.refl (fun _ => False) WG).drew.cell (fun f => f) HC.out)
      replace HM := Lib.hid HM.out.drew
      by_cases h0 : j = 0
      · have hj0 : ¬ 0 < j := by omega
        clear h0
        refine wp_region_plan [] [(0, 1), (1, 2), (2, 0), (3, 0), (4, 0), (5, 0), (6, 0), (7, 0), (8, 0), (9, 0), (10, 0), (11, 1), (12, 1), (13, 2), (14, 0), (15, 0), (16, 0)] (fun w' : World => w'.rangeAt ps 0 [.int .i64 1, .bool false, .int .u8 239, .int .u8 1, .int .u8 1, .int .u8 1, .int .u8 0, .int .u8 0, .int .u8 0, .int .u8 0, .int .u8 0, .int .u8 0, .int .u8 0, .int .u8 0, .int .u8 0, .int .u8 0, .int .u8 0, .int .u8 0, .int .i64 j, .slice (some ⟨b, 0, none⟩) 1 1] ∧ True) (by kernel_rfl) (by kernel_rfl) (fun d _ _ _ _ h => by cases d <;> exact h) ?_
        repeat (first | (refine plan_skip rfl rfl ?_; simp only [List.getElem_toArray, List.getElem_cons_succ, List.getElem_cons_zero, Act.put, List.setIfInBounds_toArray, List.set_cons_zero, List.set_cons_succ]) | (refine plan_pass2 rfl rfl ?_; simp only [List.getElem_toArray, List.getElem_cons_succ, List.getElem_cons_zero, Act.put, List.setIfInBounds_toArray, List.set_cons_zero, List.set_cons_succ]) | (refine plan_pass3 rfl rfl ?_; simp only [List.getElem_toArray, List.getElem_cons_succ, List.getElem_cons_zero, Act.put, List.setIfInBounds_toArray, List.set_cons_zero, List.set_cons_succ]) | (refine plan_take (v := ?_) rfl rfl ?_ ?_; rotate_left; (focus (intro w0; go_simp; try with_reducible rfl)); simp only [List.getElem_toArray, List.getElem_cons_succ, List.getElem_cons_zero, Act.put, List.setIfInBounds_toArray, List.set_cons_zero, List.set_cons_succ]) | fail )
        (refine plan_held (v := .agg #[.int .i64 1, .bool false, .int .u8 239, .int .u8 1, .int .u8 1, .int .u8 1, .int .u8 0, .int .u8 0, .int .u8 0, .int .u8 0, .int .u8 0, .int .u8 0, .int .u8 0, .int .u8 0, .int .u8 0, .int .u8 0, .int .u8 0, .int .u8 0, .int .i64 j, .slice (some ⟨b, 0, none⟩) 1 1]) rfl rfl ⟨HS.out, trivial⟩ (fun w0 h0 => exec_load_mid _ _ rfl ps 0 rfl [.int .i64 1, .bool false, .int .u8 239, .int .u8 1, .int .u8 1, .int .u8 1, .int .u8 0, .int .u8 0, .int .u8 0, .int .u8 0, .int .u8 0, .int .u8 0, .int .u8 0, .int .u8 0, .int .u8 0, .int .u8 0, .int .u8 0, .int .u8 0, .int .i64 j, .slice (some ⟨b, 0, none⟩) 1 1] _ w0 h0.1 Try.underlying29 rfl HI29.out) ?_; try simp only [List.getElem_toArray, List.getElem_cons_succ, List.getElem_cons_zero, Act.put, List.setIfInBounds_toArray, List.set_cons_zero, List.set_cons_succ])
        repeat (first | (refine plan_skip rfl rfl ?_; simp only [List.getElem_toArray, List.getElem_cons_succ, List.getElem_cons_zero, Act.put, List.setIfInBounds_toArray, List.set_cons_zero, List.set_cons_succ]) | (refine plan_pass2 rfl rfl ?_; simp only [List.getElem_toArray, List.getElem_cons_succ, List.getElem_cons_zero, Act.put, List.setIfInBounds_toArray, List.set_cons_zero, List.set_cons_succ]) | (refine plan_pass3 rfl rfl ?_; simp only [List.getElem_toArray, List.getElem_cons_succ, List.getElem_cons_zero, Act.put, List.setIfInBounds_toArray, List.set_cons_zero, List.set_cons_succ]) | (refine plan_take (v := ?_) rfl rfl ?_ ?_; rotate_left; (focus (intro w0; go_simp; try with_reducible rfl)); simp only [List.getElem_toArray, List.getElem_cons_succ, List.getElem_cons_zero, Act.put, List.setIfInBounds_toArray, List.set_cons_zero, List.set_cons_succ]) | fail )
        (refine plan_do rfl rfl fun K hK => ?_; try simp only [List.getElem_toArray, List.getElem_cons_succ, List.getElem_cons_zero])
        go_simp
        refine (goodRow_t j b (by omega) _ HC.out).mono ?_; rintro e W2 ⟨rfl, hm⟩
        replace HS := Lib.hid (keepRange hm HS.out)
        replace HM := Lib.hid (HM.out.trans hm fun _ f => f.elim)
        refine hK _ _ ⟨HS.out, trivial⟩ ?_
        clear hK K hm
        try simp only [List.getElem_toArray, List.getElem_cons_succ, List.getElem_cons_zero, Act.put, List.setIfInBounds_toArray, List.set_cons_zero, List.set_cons_succ]
        repeat (first | (refine plan_skip rfl rfl ?_; simp only [List.getElem_toArray, List.getElem_cons_succ, List.getElem_cons_zero, Act.put, List.setIfInBounds_toArray, List.set_cons_zero, List.set_cons_succ]) | (refine plan_pass2 rfl rfl ?_; simp only [List.getElem_toArray, List.getElem_cons_succ, List.getElem_cons_zero, Act.put, List.setIfInBounds_toArray, List.set_cons_zero, List.set_cons_succ]) | (refine plan_pass3 rfl rfl ?_; simp only [List.getElem_toArray, List.getElem_cons_succ, List.getElem_cons_zero, Act.put, List.setIfInBounds_toArray, List.set_cons_zero, List.set_cons_succ]) | (refine plan_take (v := ?_) rfl rfl ?_ ?_; rotate_left; (focus (intro w0; go_simp; try with_reducible rfl)); simp only [List.getElem_toArray, List.getElem_cons_succ, List.getElem_cons_zero, Act.put, List.setIfInBounds_toArray, List.set_cons_zero, List.set_cons_succ]) | (refine plan_held (v := ?_) rfl rfl ⟨HS.out, trivial⟩ ?_ ?_; rotate_left; (focus (intro w0 hSw; (try dsimp only at hSw); go_split_ands; go_simp; try with_reducible rfl)); simp only [List.getElem_toArray, List.getElem_cons_succ, List.getElem_cons_zero, Act.put, List.setIfInBounds_toArray, List.set_cons_zero, List.set_cons_succ])  | (refine plan_skip1 rfl rfl ⟨HS.out, trivial⟩ ?_; simp only [List.getElem_toArray, List.getElem_cons_succ, List.getElem_cons_zero, Act.put, List.setIfInBounds_toArray, List.set_cons_zero, List.set_cons_succ]))
        refine plan_nil ?_
        go_wp2
        go_roundw
        case rel => exact ⟨j + 1, by omega, by go_num, HM.out⟩
        case measure => simp [intOf]; omega
      · have hj0 : 0 < j := by omega
        obtain ⟨t, ht⟩ : ∃ t : Nat, (j : Int) - 1 = (t : Int) := ⟨j - 1, by omega⟩
        have htw : IntKind.i64.wrap ((j : Int) - 1) = (t : Int) := by rw [ht]; exact IntWalk.i64_in _ (by omega)
        have htj : t < j := by omega
        have htn : (t : Int) < (n : Int) := by omega
        obtain ⟨c, hcj⟩ : ∃ c, bs[t]? = some c := ⟨_, List.getElem?_eq_getElem (by rw [HL.out]; omega)⟩
        have HR : Hid (WG.drew.rangeAt g (o + t * 20) [.int .i64 1, .bool false, .int .u8 239, .int .u8 1, .int .u8 1, .int .u8 1, .int .u8 0, .int .u8 0, .int .u8 0, .int .u8 0, .int .u8 0, .int .u8 0, .int .u8 0, .int .u8 0, .int .u8 0, .int .u8 0, .int .u8 0, .int .u8 0, .int .i64 t, .slice (some ⟨c, 0, none⟩) 1 1]) := Lib.hid (keepRange HM.out (HGR.out t c hcj))
        clear ht h0
        refine wp_region_plan [] [(0, 1), (1, 2), (2, 0), (3, 0), (4, 0), (5, 0), (6, 0), (7, 0), (8, 0), (9, 0), (10, 0), (11, 1), (12, 1), (13, 2), (14, 0), (15, 0), (16, 0)] (fun w' : World => w'.rangeAt ps 0 [.int .i64 1, .bool false, .int .u8 239, .int .u8 1, .int .u8 1, .int .u8 1, .int .u8 0, .int .u8 0, .int .u8 0, .int .u8 0, .int .u8 0, .int .u8 0, .int .u8 0, .int .u8 0, .int .u8 0, .int .u8 0, .int .u8 0, .int .u8 0, .int .i64 j, .slice (some ⟨b, 0, none⟩) 1 1] ∧ w'.rangeAt g (o + t * 20) [.int .i64 1, .bool false, .int .u8 239, .int .u8 1, .int .u8 1, .int .u8 1, .int .u8 0, .int .u8 0, .int .u8 0, .int .u8 0, .int .u8 0, .int .u8 0, .int .u8 0, .int .u8 0, .int .u8 0, .int .u8 0, .int .u8 0, .int .u8 0, .int .i64 t, .slice (some ⟨c, 0, none⟩) 1 1]) (by kernel_rfl) (by kernel_rfl) (fun d _ _ _ _ h => by cases d <;> exact h) ?_
        repeat (first | (refine plan_skip rfl rfl ?_; simp only [List.getElem_toArray, List.getElem_cons_succ, List.getElem_cons_zero, Act.put, List.setIfInBounds_toArray, List.set_cons_zero, List.set_cons_succ]) | (refine plan_pass2 rfl rfl ?_; simp only [List.getElem_toArray, List.getElem_cons_succ, List.getElem_cons_zero, Act.put, List.setIfInBounds_toArray, List.set_cons_zero, List.set_cons_succ]) | (refine plan_pass3 rfl rfl ?_; simp only [List.getElem_toArray, List.getElem_cons_succ, List.getElem_cons_zero, Act.put, List.setIfInBounds_toArray, List.set_cons_zero, List.set_cons_succ]) | (refine plan_take (v := ?_) rfl rfl ?_ ?_; rotate_left; (focus (intro w0; go_simp; try with_reducible rfl)); simp only [List.getElem_toArray, List.getElem_cons_succ, List.getElem_cons_zero, Act.put, List.setIfInBounds_toArray, List.set_cons_zero, List.set_cons_succ]) | fail )
        (refine plan_held (v := .agg #[.int .i64 1, .bool false, .int .u8 239, .int .u8 1, .int .u8 1, .int .u8 1, .int .u8 0, .int .u8 0, .int .u8 0, .int .u8 0, .int .u8 0, .int .u8 0, .int .u8 0, .int .u8 0, .int .u8 0, .int .u8 0, .int .u8 0, .int .u8 0, .int .i64 j, .slice (some ⟨b, 0, none⟩) 1 1]) rfl rfl ⟨HS.out, HR.out⟩ (fun w0 h0 => exec_load_mid _ _ rfl ps 0 rfl [.int .i64 1, .bool false, .int .u8 239, .int .u8 1, .int .u8 1, .int .u8 1, .int .u8 0, .int .u8 0, .int .u8 0, .int .u8 0, .int .u8 0, .int .u8 0, .int .u8 0, .int .u8 0, .int .u8 0, .int .u8 0, .int .u8 0, .int .u8 0, .int .i64 j, .slice (some ⟨b, 0, none⟩) 1 1] _ w0 h0.1 Try.underlying29 rfl HI29.out) ?_; try simp only [List.getElem_toArray, List.getElem_cons_succ, List.getElem_cons_zero, Act.put, List.setIfInBounds_toArray, List.set_cons_zero, List.set_cons_succ])
        repeat (first | (refine plan_skip rfl rfl ?_; simp only [List.getElem_toArray, List.getElem_cons_succ, List.getElem_cons_zero, Act.put, List.setIfInBounds_toArray, List.set_cons_zero, List.set_cons_succ]) | (refine plan_pass2 rfl rfl ?_; simp only [List.getElem_toArray, List.getElem_cons_succ, List.getElem_cons_zero, Act.put, List.setIfInBounds_toArray, List.set_cons_zero, List.set_cons_succ]) | (refine plan_pass3 rfl rfl ?_; simp only [List.getElem_toArray, List.getElem_cons_succ, List.getElem_cons_zero, Act.put, List.setIfInBounds_toArray, List.set_cons_zero, List.set_cons_succ]) | (refine plan_take (v := ?_) rfl rfl ?_ ?_; rotate_left; (focus (intro w0; go_simp; try with_reducible rfl)); simp only [List.getElem_toArray, List.getElem_cons_succ, List.getElem_cons_zero, Act.put, List.setIfInBounds_toArray, List.set_cons_zero, List.set_cons_succ]) | fail )
        (refine plan_do rfl rfl fun K hK => ?_; try simp only [List.getElem_toArray, List.getElem_cons_succ, List.getElem_cons_zero])
        go_simp
        refine (goodRow_t j b (by omega) _ HC.out).mono ?_; rintro e W2 ⟨rfl, hm⟩
        replace HS := Lib.hid (keepRange hm HS.out)
        replace HR := Lib.hid (keepRange hm HR.out)
        replace HM := Lib.hid (HM.out.trans hm fun _ f => f.elim)
        refine hK _ _ ⟨HS.out, HR.out⟩ ?_
        clear hK K hm
        try simp only [List.getElem_toArray, List.getElem_cons_succ, List.getElem_cons_zero, Act.put, List.setIfInBounds_toArray, List.set_cons_zero, List.set_cons_succ]
        repeat (first | (refine plan_skip rfl rfl ?_; simp only [List.getElem_toArray, List.getElem_cons_succ, List.getElem_cons_zero, Act.put, List.setIfInBounds_toArray, List.set_cons_zero, List.set_cons_succ]) | (refine plan_pass2 rfl rfl ?_; simp only [List.getElem_toArray, List.getElem_cons_succ, List.getElem_cons_zero, Act.put, List.setIfInBounds_toArray, List.set_cons_zero, List.set_cons_succ]) | (refine plan_pass3 rfl rfl ?_; simp only [List.getElem_toArray, List.getElem_cons_succ, List.getElem_cons_zero, Act.put, List.setIfInBounds_toArray, List.set_cons_zero, List.set_cons_succ]) | (refine plan_take (v := ?_) rfl rfl ?_ ?_; rotate_left; (focus (intro w0; go_simp; try with_reducible rfl)); simp only [List.getElem_toArray, List.getElem_cons_succ, List.getElem_cons_zero, Act.put, List.setIfInBounds_toArray, List.set_cons_zero, List.set_cons_succ]) | (refine plan_held (v := ?_) rfl rfl ⟨HS.out, HR.out⟩ ?_ ?_; rotate_left; (focus (intro w0 hSw; (try dsimp only at hSw); go_split_ands; go_simp; try with_reducible rfl)); simp only [List.getElem_toArray, List.getElem_cons_succ, List.getElem_cons_zero, Act.put, List.setIfInBounds_toArray, List.set_cons_zero, List.set_cons_succ])  | (refine plan_skip1 rfl rfl ⟨HS.out, HR.out⟩ ?_; simp only [List.getElem_toArray, List.getElem_cons_succ, List.getElem_cons_zero, Act.put, List.setIfInBounds_toArray, List.set_cons_zero, List.set_cons_succ]))
        (refine plan_held (v := .agg #[.int .i64 1, .bool false, .int .u8 239, .int .u8 1, .int .u8 1, .int .u8 1, .int .u8 0, .int .u8 0, .int .u8 0, .int .u8 0, .int .u8 0, .int .u8 0, .int .u8 0, .int .u8 0, .int .u8 0, .int .u8 0, .int .u8 0, .int .u8 0, .int .i64 t, .slice (some ⟨c, 0, none⟩) 1 1]) rfl rfl ⟨HS.out, HR.out⟩ (fun w0 h0 => exec_load_mid _ _ rfl g (o + t * 20) rfl [.int .i64 1, .bool false, .int .u8 239, .int .u8 1, .int .u8 1, .int .u8 1, .int .u8 0, .int .u8 0, .int .u8 0, .int .u8 0, .int .u8 0, .int .u8 0, .int .u8 0, .int .u8 0, .int .u8 0, .int .u8 0, .int .u8 0, .int .u8 0, .int .i64 t, .slice (some ⟨c, 0, none⟩) 1 1] _ w0 h0.2 Try.underlying29 rfl HI29.out) ?_; try simp only [List.getElem_toArray, List.getElem_cons_succ, List.getElem_cons_zero, Act.put, List.setIfInBounds_toArray, List.set_cons_zero, List.set_cons_succ])
        repeat (first | (refine plan_skip rfl rfl ?_; simp only [List.getElem_toArray, List.getElem_cons_succ, List.getElem_cons_zero, Act.put, List.setIfInBounds_toArray, List.set_cons_zero, List.set_cons_succ]) | (refine plan_pass2 rfl rfl ?_; simp only [List.getElem_toArray, List.getElem_cons_succ, List.getElem_cons_zero, Act.put, List.setIfInBounds_toArray, List.set_cons_zero, List.set_cons_succ]) | (refine plan_pass3 rfl rfl ?_; simp only [List.getElem_toArray, List.getElem_cons_succ, List.getElem_cons_zero, Act.put, List.setIfInBounds_toArray, List.set_cons_zero, List.set_cons_succ]) | (refine plan_take (v := ?_) rfl rfl ?_ ?_; rotate_left; (focus (intro w0; go_simp; try with_reducible rfl)); simp only [List.getElem_toArray, List.getElem_cons_succ, List.getElem_cons_zero, Act.put, List.setIfInBounds_toArray, List.set_cons_zero, List.set_cons_succ]) | (refine plan_held (v := ?_) rfl rfl ⟨HS.out, HR.out⟩ ?_ ?_; rotate_left; (focus (intro w0 hSw; (try dsimp only at hSw); go_split_ands; go_simp; try with_reducible rfl)); simp only [List.getElem_toArray, List.getElem_cons_succ, List.getElem_cons_zero, Act.put, List.setIfInBounds_toArray, List.set_cons_zero, List.set_cons_succ])  | (refine plan_skip1 rfl rfl ⟨HS.out, HR.out⟩ ?_; simp only [List.getElem_toArray, List.getElem_cons_succ, List.getElem_cons_zero, Act.put, List.setIfInBounds_toArray, List.set_cons_zero, List.set_cons_succ]))
        (refine plan_held (v := .agg #[.int .i64 1, .bool false, .int .u8 239, .int .u8 1, .int .u8 1, .int .u8 1, .int .u8 0, .int .u8 0, .int .u8 0, .int .u8 0, .int .u8 0, .int .u8 0, .int .u8 0, .int .u8 0, .int .u8 0, .int .u8 0, .int .u8 0, .int .u8 0, .int .i64 j, .slice (some ⟨b, 0, none⟩) 1 1]) rfl rfl ⟨HS.out, HR.out⟩ (fun w0 h0 => exec_load_mid _ _ rfl ps 0 rfl [.int .i64 1, .bool false, .int .u8 239, .int .u8 1, .int .u8 1, .int .u8 1, .int .u8 0, .int .u8 0, .int .u8 0, .int .u8 0, .int .u8 0, .int .u8 0, .int .u8 0, .int .u8 0, .int .u8 0, .int .u8 0, .int .u8 0, .int .u8 0, .int .i64 j, .slice (some ⟨b, 0, none⟩) 1 1] _ w0 h0.1 Try.underlying29 rfl HI29.out) ?_; try simp only [List.getElem_toArray, List.getElem_cons_succ, List.getElem_cons_zero, Act.put, List.setIfInBounds_toArray, List.set_cons_zero, List.set_cons_succ])
        repeat (first | (refine plan_skip rfl rfl ?_; simp only [List.getElem_toArray, List.getElem_cons_succ, List.getElem_cons_zero, Act.put, List.setIfInBounds_toArray, List.set_cons_zero, List.set_cons_succ]) | (refine plan_pass2 rfl rfl ?_; simp only [List.getElem_toArray, List.getElem_cons_succ, List.getElem_cons_zero, Act.put, List.setIfInBounds_toArray, List.set_cons_zero, List.set_cons_succ]) | (refine plan_pass3 rfl rfl ?_; simp only [List.getElem_toArray, List.getElem_cons_succ, List.getElem_cons_zero, Act.put, List.setIfInBounds_toArray, List.set_cons_zero, List.set_cons_succ]) | (refine plan_take (v := ?_) rfl rfl ?_ ?_; rotate_left; (focus (intro w0; go_simp; try with_reducible rfl)); simp only [List.getElem_toArray, List.getElem_cons_succ, List.getElem_cons_zero, Act.put, List.setIfInBounds_toArray, List.set_cons_zero, List.set_cons_succ]) | (refine plan_held (v := ?_) rfl rfl ⟨HS.out, HR.out⟩ ?_ ?_; rotate_left; (focus (intro w0 hSw; (try dsimp only at hSw); go_split_ands; go_simp; try with_reducible rfl)); simp only [List.getElem_toArray, List.getElem_cons_succ, List.getElem_cons_zero, Act.put, List.setIfInBounds_toArray, List.set_cons_zero, List.set_cons_succ])  | (refine plan_skip1 rfl rfl ⟨HS.out, HR.out⟩ ?_; simp only [List.getElem_toArray, List.getElem_cons_succ, List.getElem_cons_zero, Act.put, List.setIfInBounds_toArray, List.set_cons_zero, List.set_cons_succ]))
        (refine plan_do rfl rfl fun K hK => ?_; try simp only [List.getElem_toArray, List.getElem_cons_succ, List.getElem_cons_zero])
        go_simp
        refine (compare_lt t c j b htj _).mono ?_; rintro e W3 ⟨rfl, hm⟩
        replace HS := Lib.hid (keepRange hm HS.out)
        replace HR := Lib.hid (keepRange hm HR.out)
        replace HM := Lib.hid (HM.out.trans hm fun _ f => f.elim)
        refine hK _ _ ⟨HS.out, HR.out⟩ ?_
        clear hK K hm
        try simp only [List.getElem_toArray, List.getElem_cons_succ, List.getElem_cons_zero, Act.put, List.setIfInBounds_toArray, List.set_cons_zero, List.set_cons_succ]
        repeat (first | (refine plan_skip rfl rfl ?_; simp only [List.getElem_toArray, List.getElem_cons_succ, List.getElem_cons_zero, Act.put, List.setIfInBounds_toArray, List.set_cons_zero, List.set_cons_succ]) | (refine plan_pass2 rfl rfl ?_; simp only [List.getElem_toArray, List.getElem_cons_succ, List.getElem_cons_zero, Act.put, List.setIfInBounds_toArray, List.set_cons_zero, List.set_cons_succ]) | (refine plan_pass3 rfl rfl ?_; simp only [List.getElem_toArray, List.getElem_cons_succ, List.getElem_cons_zero, Act.put, List.setIfInBounds_toArray, List.set_cons_zero, List.set_cons_succ]) | (refine plan_take (v := ?_) rfl rfl ?_ ?_; rotate_left; (focus (intro w0; go_simp; try with_reducible rfl)); simp only [List.getElem_toArray, List.getElem_cons_succ, List.getElem_cons_zero, Act.put, List.setIfInBounds_toArray, List.set_cons_zero, List.set_cons_succ]) | (refine plan_held (v := ?_) rfl rfl ⟨HS.out, HR.out⟩ ?_ ?_; rotate_left; (focus (intro w0 hSw; (try dsimp only at hSw); go_split_ands; go_simp; try with_reducible rfl)); simp only [List.getElem_toArray, List.getElem_cons_succ, List.getElem_cons_zero, Act.put, List.setIfInBounds_toArray, List.set_cons_zero, List.set_cons_succ])  | (refine plan_skip1 rfl rfl ⟨HS.out, HR.out⟩ ?_; simp only [List.getElem_toArray, List.getElem_cons_succ, List.getElem_cons_zero, Act.put, List.setIfInBounds_toArray, List.set_cons_zero, List.set_cons_succ]))
        refine plan_nil ?_
        go_wp2
        go_roundw
        case rel => exact ⟨j + 1, by omega, by go_num, HM.out⟩
        case measure => simp [intOf]; omega
    · have hki : ¬ (j : Int) < (n : Int) := by omega
      by_cases hd : n ≤ 2048
      · have hdi : (n : Int) ≤ 2048 := by omega
        have HD : Hid (decide (n ≤ 2048) = true) := Lib.hid (decide_eq_true hd)
        go_wp2
        go_ret
        first | exact ⟨rfl, HM.out⟩ | exact ⟨by rw [HD.out], HM.out⟩ | exact ⟨by simp [hd], HM.out⟩
      · have hdi : ¬ (n : Int) ≤ 2048 := by omega
        have HD : Hid (decide (n ≤ 2048) = false) := Lib.hid (decide_eq_false hd)
        go_wp2
        go_ret
        first | exact ⟨rfl, HM.out⟩ | exact ⟨by rw [HD.out], HM.out⟩ | exact ⟨by simp [hd], HM.out⟩
end Go.Proofs.Yteekmlgcakhclaa
