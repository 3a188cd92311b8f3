/- TableFull: the walk. -/
import Derived.Test.YteekmlgcakhclaaTabB
import Derived.Test.YteekmlgcakhclaaLives35
import Derived.Lib.Hide
import Derived.Handy
namespace Go.Proofs.Yteekmlgcakhclaa
open Go.RowKit
set_option linter.unusedVariables false
set_option linter.unusedSimpArgs false
theorem Try.elRow : Elem Try.prog 22 29 (.agg #[.int .i64 0, .bool false, .int .u8 0, .int .u8 0, .int .u8 0, .int .u8 0, .int .u8 0, .int .u8 0, .int .u8 0, .int .u8 0, .int .u8 0, .int .u8 0, .int .u8 0, .int .u8 0, .int .u8 0, .int .u8 0, .int .u8 0, .int .u8 0, .int .i64 0, .slice none 0 0]) 20 64 := .mk' Try.underlying22 (by kernel_rfl) rfl
theorem Good_t (v : Value) (n : Nat) (bs : List Nat) (w : World) (h : TRows w v n bs) (hn : n ≤ 3000) :
    Calls Try.prog 7 #[v] w fun e w' => e = .returned (.bool (decide (n ≤ 2048))) ∧ Mod (fun _ => False) w w' := by
  go_enter Try.func7, Try.ntmps7
  go_wp2_with fail
  refine (good_t v n bs _ h hn).mono ?_; rintro e w1 ⟨rfl, hm⟩
  have HM := Lib.hid hm
  clear hm
  go_wp2
  go_ret
  exact ⟨rfl, HM.out⟩
structure TF (w wr : World) (v : Value) (j : Nat) (bs : List Nat) : Prop where
  row : Row wr (fun x => w.heap.size ≤ x) 29 20 v j (rowsF 0 bs)
  len : bs.length = j
  blk : ∀ b ∈ bs, wr.heap[b]? = some (.cells #[.int .i64 1] 3 (0, 0))
  mod : Mod (fun _ => False) w wr
theorem TF.rows {w wr : World} {v : Value} {j : Nat} {bs : List Nat} (h : TF w wr v j bs) : TRows wr v j bs := by
  obtain ⟨a, cap, hv, h1, h2, h3⟩ := h.row.form
  refine ⟨a, cap, hv, h1, h2, h.len, fun h0 => ?_, fun k b hk => cellOf (h.blk b (List.mem_of_getElem? hk)) 0⟩
  obtain ⟨g, ha, _, _, hc⟩ := h3 h0
  refine ⟨g, 0, ha, fun k b hk i u hu => ?_⟩
  rw [Nat.zero_add]
  exact hc _ _ (rowsF_get bs 0 k b i u hk (by rwa [Nat.zero_add]))
theorem TF.next {w wr w3 w4 : World} {v v' : Value} {j b : Nat} {bs : List Nat} (h : TF w wr v j bs) (hm3 : Mod (fun _ => False) wr w3) (hb : w3.heap[b]? = some (.cells #[.int .i64 1] 3 (0, 0)))
    (hr : Row w4 (fun k => w.heap.size ≤ k ∨ w3.heap.size ≤ k) 29 20 v' (j + 1) (rowsF 0 bs ++ rowC j b)) (hm4 : Mod (fun k => v.ownBlock = some k) w3 w4) : TF w w4 v' (j + 1) (bs ++ [b]) := by
  have hs := Nat.le_trans h.mod.size hm3.size
  have hr3 : Row w3 (fun x => w.heap.size ≤ x) 29 20 v j (rowsF 0 bs) := h.row.keep hm3 fun _ _ f => f
  refine ⟨?_, by rw [List.length_append, h.len]; rfl, fun c hc => ?_, (h.mod.trans hm3 fun _ f => f.elim).trans hm4 fun y hy => .inr (h.row.2 y hy)⟩
  · rw [rowsF_snoc, Nat.zero_add, h.len]
    exact hr.mono fun y hy => hy.elim id fun h => Nat.le_trans hs h
  · have h3 : w3.heap[c]? = some (.cells #[.int .i64 1] 3 (0, 0)) := by
      rcases List.mem_append.1 hc with hc | hc
      · exact hm3.keep (h.blk c hc) fun f => f
      · simp at hc; subst hc; exact hb
    exact hm4.keep h3 (hr3.ne h3 (by decide))
theorem u8_bd {n : Int} (h : (Lit.int .u8 n).wf = true) : 0 ≤ n ∧ n < 256 := by
  simp [Lit.wf, IntKind.min, IntKind.max, IntKind.bits, IntKind.signed] at h
  omega
set_option maxRecDepth 100000 in
set_option maxHeartbeats 8000000 in
theorem full_walk (a0 : Int) (w0 : (Lit.int .u8 a0).wf = true) (w : World) :
    Calls Try.prog 3 #[.int .u8 a0] w fun e w' => e = .returned (.bool true) ∧ Mod (fun _ => False) w w' := by
  obtain ⟨b00, b01⟩ : 0 ≤ a0 ∧ a0 < 256 := u8_bd w0
  obtain ⟨k, hk⟩ : ∃ k : Nat, 2040 + a0 % 16 = (k : Int) := ⟨(2040 + a0 % 16).toNat, by omega⟩
  have hk1 : k ≤ 2055 := by omega
  have hm : a0.tmod 16 = a0 % 16 := Int.tmod_eq_emod_of_nonneg b00
  have e1 : IntKind.u8.wrap (a0.tmod 16) = a0 % 16 := by rw [hm]; exact IntWalk.u8_in _ (by omega)
  have e2 : IntKind.i64.wrap (a0 % 16) = a0 % 16 := IntWalk.i64_in _ (by omega)
  have e3 : IntKind.i64.wrap (2040 + a0 % 16) = (k : Int) := by rw [hk]; exact IntWalk.i64_in _ (by omega)
  go_enter Try.func3, Try.ntmps3
  go_wp2_with fail
  clear hm e1 e2 e3 b00 b01 hk
  have HF : Hid (TF w (w.alloc (.cells #[] 29)) (.slice (some ⟨w.heap.size, 0, none⟩) 0 0) 0 []) := Lib.hid ⟨Row.made (cur := #[]) (allocNew w _) rfl (by unfold maxLen; omega) (Nat.le_refl _), rfl, by simp, (Mod.refl _ _).alloc _⟩
  go_loopw [4, 5] (fun v i wr => ∃ (j : Nat) (bs : List Nat), j ≤ k ∧ i = .int .i64 j ∧ TF w wr v j bs) (fun _ i _ => k - (intOf i).toNat)
  case atStart => exact ⟨0, [], Nat.zero_le _, rfl, HF.out⟩
  case round =>
    obtain ⟨j, bs, hj, rfl, hF⟩ := hrel
    have HF2 := Lib.hid hF
    obtain ⟨a5, c5, rfl, hk5, hc5, _⟩ := hF.row.form
    clear hF HF
    by_cases hlt : j < k
    · have hki : (j : Int) < (k : Int) := by omega
      go_wp2_with fail
      refine (four_1 _).mono ?_; rintro e w3 ⟨rfl, hm3⟩
      have HM3 := Lib.hid hm3
      have HR3 := Lib.hid (HF2.out.row.keep hm3 fun _ _ f => f)
      clear hm3
      go_wp2_with (at_builtin; refine wpList_append_one Try.elRow rfl (.tmp 16) (.tmp 21) rfl #[.int .i64 1, .bool false, .int .u8 239, .int .u8 1, .int .u8 1, .int .u8 1, .int .u8 0, .int .u8 0, .int .u8 0, .int .u8 0, .int .u8 0, .int .u8 0, .int .u8 0, .int .u8 0, .int .u8 0, .int .u8 0, .int .u8 0, .int .u8 0, .int .i64 j, .slice (some ⟨w3.heap.size, 0, none⟩) 1 1] _ _ _ _ ((HR3.out.alloc _).alloc _) (w3.heap.size + 1) (allocNewAt (w := w3.alloc (.cells #[.int .i64 1] 3)) (by simp)) rfl rfl rfl (by simp [Value.oneCell']) (by omega) (by unfold maxLen; omega) ?_)
      intro v4 w4 hR hm4
      obtain ⟨a4, c4, rfl, hn4, hc4, _⟩ := hR.form
      have hF4 := HF2.out.next (b := w3.heap.size) ((HM3.out.alloc (.cells #[.int .i64 1] 3)).alloc (.cells #[.int .i64 1, .bool false, .int .u8 239, .int .u8 1, .int .u8 1, .int .u8 1, .int .u8 0, .int .u8 0, .int .u8 0, .int .u8 0, .int .u8 0, .int .u8 0, .int .u8 0, .int .u8 0, .int .u8 0, .int .u8 0, .int .u8 0, .int .u8 0, .int .i64 j, .slice (some ⟨w3.heap.size, 0, none⟩) 1 1] 29)) (allocFar (allocNew w3 _)) (hR.mono fun y hy => hy.imp id fun h => by simpa using h) hm4
      have HF4 := Lib.hid hF4
      clear hR hm4 hF4 HR3 HM3 HF2
      go_wp2
      go_roundw
      case rel => exact ⟨j + 1, _, by omega, by go_num, HF4.out⟩
      case measure => simp [intOf]; omega
    · have hki : ¬ (j : Int) < (k : Int) := by omega
      obtain rfl : j = k := by omega
      go_wp2_with fail
      refine (Good_t _ j bs _ HF2.out.rows (by omega)).mono ?_; rintro e w3 ⟨rfl, hm3⟩
      have HM3 := Lib.hid (HF2.out.mod.trans hm3 fun _ f => f.elim)
      clear hm3 HF2
      by_cases hd : j ≤ 2048
      · have hdi : (j : Int) < 2049 := by omega
        rw [show decide (j ≤ 2048) = true from decide_eq_true hd]
        go_wp2_with fail
        refine (lives35_any _).mono ?_; rintro e w5 ⟨rfl, hm⟩
        have HM5 := Lib.hid hm
        clear hm
        go_wp2
        go_ret
        exact ⟨rfl, HM3.out.trans HM5.out fun _ f => f.elim⟩
      · have hdi : ¬ (j : Int) < 2049 := by omega
        have HDI : Hid (decide ((j : Int) < 2049) = false) := Lib.hid (decide_eq_false hdi)
        rw [show decide (j ≤ 2048) = false from decide_eq_false hd]
        go_wp2_with fail
        refine (lives35_any _).mono ?_; rintro e w5 ⟨rfl, hm⟩
        have HM5 := Lib.hid hm
        clear hm
        go_wp2
        go_ret
        first | exact ⟨by rw [HDI.out]; rfl, HM3.out.trans HM5.out fun _ f => f.elim⟩ | exact ⟨rfl, HM3.out.trans HM5.out fun _ f => f.elim⟩
end Go.Proofs.Yteekmlgcakhclaa
