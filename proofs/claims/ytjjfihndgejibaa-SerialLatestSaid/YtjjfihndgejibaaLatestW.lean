/- SerialLatest: the plain law, and the walk. -/
import Derived.Test.YtjjfihndgejibaaSerialLatest
import Derived.Test.YtjjfihndgejibaaSerialLives
import Derived.Handy
namespace Go.Proofs.Ytjjfihndgejibaa
open Go.RowKit
set_option linter.unusedVariables false
set_option linter.unusedSimpArgs false
theorem Try.elU32 : Elem Try.prog 30 22 (.int .u32 0) 1 4 := .mk' Try.underlying30 (by kernel_rfl) rfl
def Sr.most (ys : List Int) : Int := ys.foldl (fun m y => if m < y then y else m) 0
theorem Sr.most_snoc (ys : List Int) (y : Int) : Sr.most (ys ++ [y]) = if Sr.most ys < y then y else Sr.most ys := by unfold Sr.most; simp [List.foldl_append]
theorem Sr.most_bd (ys : List Int) (h : ∀ y ∈ ys, 0 ≤ y ∧ y < 65536) : 0 ≤ Sr.most ys ∧ Sr.most ys < 65536 := by
  suffices H : ∀ (n : Nat) (l : List Int), l.length = n → (∀ y ∈ l, 0 ≤ y ∧ y < 65536) → 0 ≤ Sr.most l ∧ Sr.most l < 65536 from H _ ys rfl h
  intro n
  induction n with
  | zero => intro l hl _; rw [List.eq_nil_of_length_eq_zero hl]; decide
  | succ n ih =>
    intro l hl h
    have hne : l ≠ [] := by intro e; rw [e] at hl; cases hl
    have e := List.dropLast_concat_getLast hne
    have h1 := ih l.dropLast (by simp [hl]) fun y hy => h y ((List.dropLast_sublist l).subset hy)
    have h2 := h _ (List.getLast_mem hne)
    rw [← e, Sr.most_snoc]
    split <;> omega
theorem nth_map (f : Int → Int) (ys : List Int) (k : Nat) (h : k < ys.length) : nth (ys.map f) k = f (nth ys k) := by simp [nth, List.getD, h]
/-- of numbers near one another the latest is the last in order -/
theorem Sr.latest_near (a : Int) (ys : List Int) (h : ∀ y ∈ ys, 0 ≤ y ∧ y < 65536) : ∀ k, 1 ≤ k → k ≤ ys.length → Sr.latest (ys.map (Sr.add a)) k = Sr.add a (Sr.most (ys.take k))
  | 0, h1, _ => by omega
  | k + 1, _, hk => by
    have hlt : k < (ys.map (Sr.add a)).length := by simp; omega
    rw [Sr.latest_succ _ _ hlt, nth_map _ _ _ (by omega)]
    have hy := h (nth ys k) (by simp [nth, List.getD, show k < ys.length by omega])
    have hsn : ys.take (k + 1) = ys.take k ++ [nth ys k] := by
      rw [List.take_add_one]
      simp [nth, List.getD, show k < ys.length by omega]
    rw [hsn, Sr.most_snoc]
    by_cases h0 : k = 0
    · subst h0
      rw [Sr.latest_zero, nth_map _ _ _ (by omega), Sr.gap_self]
      have e0 : Sr.most (ys.take 0) = 0 := rfl
      simp only [e0]
      have e1 : (if (0 : Int) < nth ys 0 then nth ys 0 else 0) = nth ys 0 := by split <;> omega
      rw [e1]
      simp
    · rw [Sr.latest_near a ys h k (by omega) (by omega)]
      have hm := Sr.most_bd (ys.take k) fun y hy => h y (List.mem_of_mem_take hy)
      generalize Sr.most (ys.take k) = m at *
      generalize nth ys k = y at *
      have hg : 0 < Sr.gap (Sr.add a m) (Sr.add a y) ↔ m < y := by
        unfold Sr.gap Sr.add
        split <;> omega
      by_cases hmy : m < y
      · rw [if_pos (hg.2 hmy), if_pos hmy]
      · rw [if_neg (fun e => hmy (hg.1 e)), if_neg hmy]
theorem Latest_n (a : Option Addr) (zs : List Int) (n cap : Nat) (w : World) (hn : n = zs.length) (hs : SlI w .u32 a zs cap) :
    Calls Try.prog 15 #[.slice a n cap] w fun e w' => e = .returned (.tuple #[.int .u32 (if n = 0 then 0 else Sr.latest zs n), .bool (decide (0 < n))]) ∧ w = w' := by
  subst hn
  exact Latest_any a zs cap w hs
theorem refLatest_n (a : Option Addr) (zs : List Int) (n cap : Nat) (w : World) (hn : n = zs.length) (hs : SlI w .u32 a zs cap) (hz : U32s zs) (h0 : 0 < n) :
    Calls Try.prog 16 #[.slice a n cap] w fun e w' => e = .returned (.int .u32 (Sr.latest zs n)) ∧ w = w' := by
  subst hn
  exact refLatest_any a zs cap w hs hz h0
set_option maxRecDepth 100000 in
set_option maxHeartbeats 40000000 in
theorem latest_walk (a0 : Int) (h00 : 0 ≤ a0) (h01 : a0 < 4294967296) (la na : Option Addr) (zs ys : List Int) (lc nc : Nat) (w : World) (hl : SlI w .u32 la zs lc) (hn : SlI w .u16 na ys nc) (hz : ∀ z ∈ zs, 0 ≤ z ∧ z < 4294967296) (hy : ∀ y ∈ ys, 0 ≤ y ∧ y < 65536) :
    Calls Try.prog 6 #[.slice la zs.length lc, .int .u32 a0, .slice na ys.length nc] w fun e w' => e = .returned (.bool true) ∧ Mod (fun _ => False) w w' := by
  obtain ⟨n, hnn⟩ : ∃ n, n = zs.length := ⟨_, rfl⟩
  obtain ⟨m, hmm⟩ : ∃ m, m = ys.length := ⟨_, rfl⟩
  have hlc := hl.1
  have hlc2 := hl.2.1
  have hnc := hn.1
  have hnc2 := hn.2.1
  unfold maxLen at hlc2 hnc2
  rw [← hnn] at hlc ⊢
  rw [← hmm] at hnc ⊢
  have HL := Lib.hid hl
  have HN := Lib.hid hn
  have HZ := Lib.hid hz
  have HY := Lib.hid hy
  have HNN := Lib.hid hnn
  have HMM := Lib.hid hmm
  clear hl hn hz hy hnn hmm
  go_enter Try.func6, Try.ntmps6
  go_wp2_with fail
  have hsA : Hid (Row ((w.alloc (.cells #[] 22)).alloc (.cells #[] 22)) (fun k => w.heap.size ≤ k ∧ k ≠ w.heap.size + 1) 22 1 (.slice (some ⟨w.heap.size, 0, none⟩) 0 0) 0 [] ∧ Row ((w.alloc (.cells #[] 22)).alloc (.cells #[] 22)) (fun k => k = w.heap.size + 1) 22 1 (.slice (some ⟨w.heap.size + 1, 0, none⟩) 0 0) 0 [] ∧ Mod (fun _ => False) w ((w.alloc (.cells #[] 22)).alloc (.cells #[] 22))) := by
    refine Lib.hid ⟨Row.made (cur := #[]) (allocFar (allocNew w _)) rfl (by unfold maxLen; omega) ⟨Nat.le_refl _, by omega⟩, Row.made (cur := #[]) ?_ rfl (by unfold maxLen; omega) rfl, ((Mod.refl _ _).alloc _).alloc _⟩
    have := allocNew (w.alloc (.cells #[] 22)) (.cells #[] 22)
    rwa [show (w.alloc (.cells #[] 22)).heap.size = w.heap.size + 1 by simp] at this
  go_loopw [7, 10] (fun v i wr => ∃ k : Nat, k ≤ n ∧ k ≤ 10 ∧ i = .int .i64 k ∧ Row wr (fun k => w.heap.size ≤ k ∧ k ≠ w.heap.size + 1) 22 1 v k ((zs.take k).map (.int .u32)) ∧ Row wr (fun k => k = w.heap.size + 1) 22 1 (.slice (some ⟨w.heap.size + 1, 0, none⟩) 0 0) 0 [] ∧ Mod (fun _ => False) w wr ∧ w.heap.size + 2 ≤ wr.heap.size) (fun _ i _ => n - (intOf i).toNat)
  case atStart => exact ⟨0, Nat.zero_le _, Nat.zero_le _, rfl, hsA.out.1, hsA.out.2.1, hsA.out.2.2, by simp⟩
  case round =>
    obtain ⟨k, hk, hk10, rfl, hr, hx, hm, hs⟩ := hrel
    have HR := Lib.hid hr
    have HX := Lib.hid hx
    have HM := Lib.hid hm
    obtain ⟨a5, c5, rfl, hk5, hc5, _⟩ := hr.form
    clear hr hx hm hsA
    by_cases hgo : k < n ∧ k < 10
    · obtain ⟨hlt, hlt10⟩ := hgo
      have hki : (k : Int) < (n : Int) := by omega
      have hki2 : (k : Int) < 10 := by omega
      have hne : zs ≠ [] := by intro e; have := HNN.out; rw [e] at this; simp at this; omega
      obtain ⟨g, o, rfl, hgl, hcg⟩ := HL.out.2.2 hne
      have hkz : k < zs.length := by rw [← HNN.out]; exact hlt
      have x0 : wr.cell? ⟨g, o + k, none⟩ = some (.int .u32 (nth zs k)) := HM.out.cell (fun f => f) (hcg k hkz)
      have HT : Hid (zs.take (k + 1) = zs.take k ++ [nth zs k]) := Lib.hid (by rw [List.take_add_one]; simp [nth, List.getD, hkz])
      generalize nth zs k = z at *
      clear hcg hkz hne
      go_wp2_with (at_builtin; refine wpList_append_one Try.elU32 rfl (.tmp 28) (.tmp 33) rfl #[.int .u32 z] _ _ _ _ (HR.out.alloc _) _ (allocNew wr _) rfl rfl rfl (by simp [Value.oneCell']) (by omega) (by unfold maxLen; omega) ?_)
      intro v4 w4 hR hm4
      obtain ⟨a4, c4, rfl, hn4, hc4, _⟩ := hR.form
      have hsz := hm4.size
      have hsz' : wr.heap.size ≤ w4.heap.size := Nat.le_trans (by simp) hsz
      have hm5 : Mod (fun _ => False) w w4 := (HM.out.alloc _).trans hm4 fun y hy => .inr (HR.out.2 y hy).1
      have hR5 : Row w4 (fun k => w.heap.size ≤ k ∧ k ≠ w.heap.size + 1) 22 1 (.slice a4 (k + 1) c4) (k + 1) ((zs.take (k + 1)).map (.int .u32)) := by
        have := hR.mono (f' := fun k => w.heap.size ≤ k ∧ k ≠ w.heap.size + 1) fun y hy => hy.elim id fun h => by first | omega | (simp at h; omega)
        rw [HT.out, List.map_append]
        simpa only [List.map_take, List.map_cons, List.map_nil] using this
      have HR5 := Lib.hid hR5
      have HM5 := Lib.hid hm5
      have HX5 := Lib.hid ((HX.out.alloc _).keep hm4 fun y hy h => (HR.out.2 y h).2 hy)
      clear hR hm4 hm5 hR5 HR HX HT
      go_wp2
      go_roundw
      case rel => exact ⟨k + 1, by omega, by omega, by go_num, HR5.out, HX5.out, HM5.out, by omega⟩
      case measure => simp [intOf]; omega
    · have HKN : Hid (k = min n 10) := Lib.hid (by omega)
      obtain ⟨hd1, hd2⟩ : (¬ (k : Int) < (n : Int) ∨ ((k : Int) < (n : Int) ∧ ¬ (k : Int) < 10)) ∧ True := ⟨by omega, trivial⟩
      have HOWN : Hid (Row wr (fun y => w.heap.size ≤ y ∧ y ≠ w.heap.size + 1 ∧ y < wr.heap.size) 22 1 (.slice a5 k c5) k ((zs.take k).map (.int .u32))) := Lib.hid ⟨HR.out.1, fun y hy => ⟨(HR.out.2 y hy).1, (HR.out.2 y hy).2, HR.out.lt y hy⟩⟩
      obtain ⟨wk, hwk⟩ : ∃ wk, wk = wr.heap.size := ⟨_, rfl⟩
      rw [← hwk] at HOWN hs
      have HWK := Lib.hid hwk
      clear hwk
      rcases hd1 with hd | ⟨hd, hd3⟩
      all_goals
        go_wp2_with fail
        go_loopw [8, 9, 11] (fun v mo i wq => ∃ j : Nat, j ≤ m ∧ j ≤ 10 ∧ i = .int .i64 j ∧ mo = .int .i64 (Sr.most (ys.take j)) ∧ Row wq (fun y => w.heap.size ≤ y ∧ y ≠ w.heap.size + 1 ∧ y < wk) 22 1 (.slice a5 k c5) k ((zs.take k).map (.int .u32)) ∧ Row wq (fun y => y = w.heap.size + 1 ∨ wk ≤ y) 22 1 v j (((ys.take j).map (Sr.add a0)).map (.int .u32)) ∧ Mod (fun _ => False) w wq ∧ wk ≤ wq.heap.size) (fun _ _ i _ => m - (intOf i).toNat)
        case atStart => exact ⟨0, Nat.zero_le _, Nat.zero_le _, rfl, rfl, HOWN.out, HX.out.mono fun y h => .inl h, HM.out, by rw [HWK.out]; exact Nat.le_refl _⟩
        case round =>
          obtain ⟨j, hj, hj10, rfl, rfl, hr, hx, hm, hs2⟩ := hrel
          have HO := Lib.hid hr
          have HX2 := Lib.hid hx
          have HM2 := Lib.hid hm
          obtain ⟨a6, c6, rfl, hk6, hc6, _⟩ := hx.form
          clear hr hx hm
          by_cases hgo2 : j < m ∧ j < 10
          · obtain ⟨hlt, hlt10⟩ := hgo2
            have hji : (j : Int) < (m : Int) := by omega
            have hji2 : (j : Int) < 10 := by omega
            have hne : ys ≠ [] := by intro e; have := HMM.out; rw [e] at this; simp at this; omega
            obtain ⟨g, o, rfl, hgl, hcg⟩ := HN.out.2.2 hne
            have hkz : j < ys.length := by rw [← HMM.out]; exact hlt
            have x0 : wr.cell? ⟨g, o + j, none⟩ = some (.int .u16 (nth ys j)) := HM2.out.cell (fun f => f) (hcg j hkz)
            have HT : Hid (ys.take (j + 1) = ys.take j ++ [nth ys j]) := Lib.hid (by rw [List.take_add_one]; simp [nth, List.getD, hkz])
            have hyb := HY.out (nth ys j) (by simp [nth, List.getD, hkz])
            have hmb := Sr.most_bd (ys.take j) fun y hy => HY.out y (List.mem_of_mem_take hy)
            have HMS : Hid (Sr.most (ys.take (j + 1)) = if Sr.most (ys.take j) < nth ys j then nth ys j else Sr.most (ys.take j)) := Lib.hid (by rw [HT.out, Sr.most_snoc])
            generalize nth ys j = y at *
            generalize Sr.most (ys.take j) = mo at *
            have hcv : IntKind.i64.wrap y = y := IntWalk.i64_in _ (by omega)
            have hgl2 : g < wr.heap.size := World.block_lt_of_cell? wr _ x0
            have hgw : g < w.heap.size := hgl
            clear hcg hkz hne
            go_wp2_with fail
            refine (refAdd_any a0 y h00 h01 (by omega) (by omega) _).mono ?_; rintro e w' ⟨rfl, rfl⟩
            go_wp2_with (at_builtin; refine wpList_append_one Try.elU32 rfl (.tmp 45) (.tmp 53) rfl #[.int .u32 (Sr.add a0 y)] _ _ _ _ (HX2.out.alloc _) _ (allocNew _ _) rfl rfl rfl (by simp [Value.oneCell']) (by omega) (by unfold maxLen; omega) ?_)
            intro v4 w4 hR hm4
            obtain ⟨a4, c4, rfl, hn4, hc4, _⟩ := hR.form
            have hsz := hm4.size
            have hsz' : wr.heap.size ≤ w4.heap.size := Nat.le_trans (by simp) hsz
            have hng : ¬ (Value.slice a6 j c6).ownBlock = some g := fun h => by have := HX2.out.2 _ h; omega
            have x1 : w4.cell? ⟨g, o + j, none⟩ = some (.int .u16 y) := hm4.cell hng (allocCell _ x0)
            have hm5 : Mod (fun _ => False) w w4 := (HM2.out.alloc _).trans hm4 fun y hy => .inr (by have := HX2.out.2 y hy; omega)
            have hR5 : Row w4 (fun y => y = w.heap.size + 1 ∨ wk ≤ y) 22 1 (.slice a4 (j + 1) c4) (j + 1) (((ys.take (j + 1)).map (Sr.add a0)).map (.int .u32)) := by
              have := hR.mono (f' := fun y => y = w.heap.size + 1 ∨ wk ≤ y) fun y hy => hy.elim id fun h => .inr (by first | omega | (simp at h; omega))
              rw [HT.out, List.map_append, List.map_append]
              simpa only [List.map_take, List.map_map, List.map_cons, List.map_nil, Function.comp] using this
            have HR5 := Lib.hid hR5
            have HM5 := Lib.hid hm5
            have HO5 := Lib.hid ((HO.out.alloc _).keep hm4 fun y hy h => by have := HX2.out.2 y h; omega)
            clear hR hm4 hm5 hR5 HO HX2 HT hng x0
            by_cases hmy : mo < y
            · go_wp2
              go_roundw
              case rel => exact ⟨j + 1, by omega, by omega, by go_num, by rw [HMS.out, if_pos hmy], HO5.out, HR5.out, HM5.out, by omega⟩
              case measure => simp [intOf]; omega
            · go_wp2
              go_roundw
              case rel => exact ⟨j + 1, by omega, by omega, by go_num, by rw [HMS.out, if_neg hmy], HO5.out, HR5.out, HM5.out, by omega⟩
              case measure => simp [intOf]; omega
          · have HKM : Hid (j = min m 10) := Lib.hid (by omega)
            obtain ⟨oa, oc, hoe, hOS, hol⟩ := SlI.of_owns HO.out.1
            obtain ⟨xa, xc, hxe, hXS, hxl⟩ := SlI.of_owns HX2.out.1
            have hzb : U32s (zs.take k) := fun i => by
              unfold nth
              rw [List.getD_eq_getElem?_getD]
              cases h : (zs.take k)[i]? with
              | none => exact ⟨Int.le_refl _, by decide⟩
              | some v => exact HZ.out _ (List.mem_of_mem_take (List.mem_of_getElem? h))
            have hlat : ∀ t, 1 ≤ t → t ≤ (ys.take j).length → Sr.latest ((ys.take j).map (Sr.add a0)) t = Sr.add a0 (Sr.most ((ys.take j).take t)) := Sr.latest_near a0 _ fun y hy => HY.out y (List.mem_of_mem_take hy)
            have hmb := Sr.most_bd (ys.take j) fun y hy => HY.out y (List.mem_of_mem_take hy)
            have hxlen : ((ys.take j).map (Sr.add a0)).length = (ys.take j).length := by simp
            have hlat2 : 0 < (ys.take j).length → Sr.latest ((ys.take j).map (Sr.add a0)) ((ys.take j).map (Sr.add a0)).length = Sr.add a0 (Sr.most (ys.take j)) := fun h => by
              rw [hxlen, hlat _ (by omega) (Nat.le_refl _), List.take_length]
            have HZB := Lib.hid hzb
            have HLAT := Lib.hid hlat2
            obtain ⟨own, how⟩ : ∃ own, own = zs.take k := ⟨_, rfl⟩
            obtain ⟨xl, hxw⟩ : ∃ xl, xl = (ys.take j).map (Sr.add a0) := ⟨_, rfl⟩
            obtain ⟨mo, hmo⟩ : ∃ mo, mo = Sr.most (ys.take j) := ⟨_, rfl⟩
            rw [← how] at hoe hOS hol HZB
            rw [← hxw] at hxe hXS hxl HLAT
            rw [← hmo] at HLAT hmb ⊢
            have hj' : (¬ (j : Int) < (m : Int) ∨ ((j : Int) < (m : Int) ∧ ¬ (j : Int) < 10)) := by omega
            have hlat3 : 0 < j → Sr.latest xl j = Sr.add a0 mo := fun h => by
              have e : (ys.take j).length = j := by rw [hxl, hxw]; simp
              have := HLAT.out (by omega)
              rwa [← hxl] at this
            have HLA := Lib.hid hlat3
            clear how hxw hmo HWK hgo2 hlat3 HLAT
            injection hoe with e1 e2 e3
            subst e1 e3
            injection hxe with e4 e5 e6
            subst e4 e6
            have HOL := Lib.hid e2
            have HXL := Lib.hid e5
            have HOS := Lib.hid hOS
            have HXS := Lib.hid hXS
            clear hzb hlat hlat2 hOS hXS hxlen HO HX2 HX HOWN HR HM e2 e5 hol hxl
            rcases Nat.eq_zero_or_pos k with rfl | ho
            · try (exfalso; omega)
              all_goals
                rcases Nat.eq_zero_or_pos j with rfl | hx
                · rcases hj' with hj1 | ⟨hj1, hj2⟩
                  all_goals (try (exfalso; omega))
                  all_goals
                    go_wp2_with fail
                    refine (Latest_n a5 own 0 c5 _ HOL.out HOS.out).mono ?_; rintro e w' ⟨rfl, rfl⟩
                    rw [show (if (0 : Nat) = 0 then (0 : Int) else Sr.latest own 0) = 0 from rfl, show decide (0 < (0 : Nat)) = false from rfl]
                    go_wp2_with fail
                    refine (Latest_n a6 xl 0 c6 _ HXL.out HXS.out).mono ?_; rintro e w' ⟨rfl, rfl⟩
                    rw [show (if (0 : Nat) = 0 then (0 : Int) else Sr.latest xl 0) = 0 from rfl, show decide (0 < (0 : Nat)) = false from rfl]
                    go_wp2_with fail
                    refine (lives_any _).mono ?_; rintro e w' ⟨rfl, rfl⟩
                    go_wp2
                    go_returns
                    exact ⟨rfl, HM2.out⟩
                · rcases hj' with hj1 | ⟨hj1, hj2⟩
                  all_goals
                    have e2 : (if j = 0 then (0 : Int) else Sr.latest xl j) = Sr.add a0 mo := by rw [if_neg (by omega), HLA.out hx]
                    have d2 : decide (0 < j) = true := decide_eq_true hx
                    have hxi : (0 : Int) < (j : Int) := by omega
                    have E2 := Lib.hid e2
                    have D2 := Lib.hid d2
                    clear e2 d2
                    go_wp2_with fail
                    refine (Latest_n a5 own 0 c5 _ HOL.out HOS.out).mono ?_; rintro e w' ⟨rfl, rfl⟩
                    rw [show (if (0 : Nat) = 0 then (0 : Int) else Sr.latest own 0) = 0 from rfl, show decide (0 < (0 : Nat)) = false from rfl]
                    go_wp2_with fail
                    refine (Latest_n a6 xl j c6 _ HXL.out HXS.out).mono ?_; rintro e w' ⟨rfl, rfl⟩
                    rw [E2.out, D2.out]
                    go_wp2_with fail
                    refine (refAdd_any a0 mo h00 h01 (by omega) (by omega) _).mono ?_; rintro e w' ⟨rfl, rfl⟩
                    go_wp2_with fail
                    refine (lives_any _).mono ?_; rintro e w' ⟨rfl, rfl⟩
                    go_wp2
                    go_returns
                    exact ⟨rfl, HM2.out⟩
            · rcases Nat.eq_zero_or_pos j with rfl | hx
              · rcases hj' with hj1 | ⟨hj1, hj2⟩
                all_goals (try (exfalso; omega))
                all_goals
                  obtain ⟨lv, hlv⟩ : ∃ lv, lv = Sr.latest own k := ⟨_, rfl⟩
                  have e1 : (if k = 0 then (0 : Int) else Sr.latest own k) = lv := by rw [if_neg (by omega), hlv]
                  have d1 : decide (0 < k) = true := decide_eq_true ho
                  have hoi : (0 : Int) < (k : Int) := by omega
                  have HLV := Lib.hid hlv
                  clear hlv
                  have E1 := Lib.hid e1
                  have D1 := Lib.hid d1
                  clear e1 d1
                  go_wp2_with fail
                  refine (Latest_n a5 own k c5 _ HOL.out HOS.out).mono ?_; rintro e w' ⟨rfl, rfl⟩
                  rw [E1.out, D1.out]
                  go_wp2_with fail
                  refine (Latest_n a6 xl 0 c6 _ HXL.out HXS.out).mono ?_; rintro e w' ⟨rfl, rfl⟩
                  rw [show (if (0 : Nat) = 0 then (0 : Int) else Sr.latest xl 0) = 0 from rfl, show decide (0 < (0 : Nat)) = false from rfl]
                  go_wp2_with fail
                  refine (refLatest_n a5 own k c5 _ HOL.out HOS.out HZB.out ho).mono ?_; rintro e w' ⟨rfl, rfl⟩
                  rw [← HLV.out]
                  go_wp2_with fail
                  refine (lives_any _).mono ?_; rintro e w' ⟨rfl, rfl⟩
                  go_wp2
                  go_returns
                  exact ⟨rfl, HM2.out⟩
              · rcases hj' with hj1 | ⟨hj1, hj2⟩
                all_goals (try (exfalso; omega))
                all_goals
                  obtain ⟨lv, hlv⟩ : ∃ lv, lv = Sr.latest own k := ⟨_, rfl⟩
                  have e1 : (if k = 0 then (0 : Int) else Sr.latest own k) = lv := by rw [if_neg (by omega), hlv]
                  have d1 : decide (0 < k) = true := decide_eq_true ho
                  have hoi : (0 : Int) < (k : Int) := by omega
                  have HLV := Lib.hid hlv
                  clear hlv
                  have e2 : (if j = 0 then (0 : Int) else Sr.latest xl j) = Sr.add a0 mo := by rw [if_neg (by omega), HLA.out hx]
                  have d2 : decide (0 < j) = true := decide_eq_true hx
                  have hxi : (0 : Int) < (j : Int) := by omega
                  have E1 := Lib.hid e1
                  have D1 := Lib.hid d1
                  have E2 := Lib.hid e2
                  have D2 := Lib.hid d2
                  clear e1 d1 e2 d2
                  go_wp2_with fail
                  refine (Latest_n a5 own k c5 _ HOL.out HOS.out).mono ?_; rintro e w' ⟨rfl, rfl⟩
                  rw [E1.out, D1.out]
                  go_wp2_with fail
                  refine (Latest_n a6 xl j c6 _ HXL.out HXS.out).mono ?_; rintro e w' ⟨rfl, rfl⟩
                  rw [E2.out, D2.out]
                  go_wp2_with fail
                  refine (refLatest_n a5 own k c5 _ HOL.out HOS.out HZB.out ho).mono ?_; rintro e w' ⟨rfl, rfl⟩
                  rw [← HLV.out]
                  go_wp2_with fail
                  refine (refAdd_any a0 mo h00 h01 (by omega) (by omega) _).mono ?_; rintro e w' ⟨rfl, rfl⟩
                  go_wp2_with fail
                  refine (lives_any _).mono ?_; rintro e w' ⟨rfl, rfl⟩
                  go_wp2
                  go_returns
                  exact ⟨rfl, HM2.out⟩
end Go.Proofs.Ytjjfihndgejibaa
