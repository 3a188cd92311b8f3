/- cmp.Compare, cmp.Or, addr.Cmp: contracts, whatever the addresses are. -/
import Derived.Test.YtcccdlmngddalaaGreatAdrV
set_option linter.unusedVariables false
set_option linter.unusedSimpArgs false
namespace Go.Proofs.YtcccdlmngddalaaGreat
open Go.RowKit
theorem isNaN_f (n : Int) (w : World) : Calls Tryz.prog 152 #[.int .i64 n] w fun e w' => e = .returned (.bool false) ∧ w = w' := by
  go_enter Tryz.func152, Tryz.ntmps152
  go_wp2
  go_ret
  exact ⟨rfl, rfl⟩
theorem cmpI_any (a b : Int) (w : World) : Calls Tryz.prog 136 #[.int .i64 a, .int .i64 b] w fun e w' => e = .returned (.int .i64 (cmpI a b)) ∧ w = w' := by
  rcases Int.lt_trichotomy a b with h | h | h
  · rw [show cmpI a b = -1 from if_pos h]
    go_enter Tryz.func136, Tryz.ntmps136
    go_wp2_with fail
    refine (isNaN_f _ _).mono ?_; rintro e w1 ⟨rfl, rfl⟩
    go_wp2_with fail
    refine (isNaN_f _ _).mono ?_; rintro e w2 ⟨rfl, rfl⟩
    go_wp2
    go_ret
    exact ⟨rfl, rfl⟩
  · subst h
    rw [show cmpI a a = 0 by unfold cmpI; simp]
    go_enter Tryz.func136, Tryz.ntmps136
    go_wp2_with fail
    refine (isNaN_f _ _).mono ?_; rintro e w1 ⟨rfl, rfl⟩
    go_wp2_with fail
    refine (isNaN_f _ _).mono ?_; rintro e w2 ⟨rfl, rfl⟩
    go_wp2
    go_ret
    exact ⟨rfl, rfl⟩
  · have h2 : ¬ a < b := by omega
    rw [show cmpI a b = 1 by unfold cmpI; rw [if_neg h2, if_pos h]]
    go_enter Tryz.func136, Tryz.ntmps136
    go_wp2_with fail
    refine (isNaN_f _ _).mono ?_; rintro e w1 ⟨rfl, rfl⟩
    go_wp2_with fail
    refine (isNaN_f _ _).mono ?_; rintro e w2 ⟨rfl, rfl⟩
    go_wp2
    go_ret
    exact ⟨rfl, rfl⟩
set_option maxRecDepth 100000 in
theorem bytes6 (b : List Int) (hb : b.length = 16) (w : World) : Calls Tryz.prog 123 #[.agg (adrC true b).toArray] w fun e w' => e = .returned (.string (strOfNums b)) ∧ Mod (fun _ => False) w w' := by
  have c0 : (adrC true b)[0]? = some (.bool true) := rfl
  have hcv := run_convert_bytes_arg (P := Tryz.prog) (w.alloc (.cells (adrC true b).toArray 36)) 159 5 Tryz.underlying159 Tryz.underlying5 w.heap.size 1 16 16 b hb (fun i hi => by
    rw [cellOf (allocNew w _)]
    unfold adrC
    simp [show 1 + i = i + 1 by omega, hb, hi]) 9 Tryz.underlying9
  go_enter Tryz.func123, Tryz.ntmps123
  go_wp2
  go_returns
  exact ⟨rfl, (Mod.refl _ _).alloc _⟩
theorem cmpBytes : ∀ (l m : List Int), (∀ x ∈ l, 0 ≤ x ∧ x < 256) → (∀ x ∈ m, 0 ≤ x ∧ x < 256) → l.length = m.length → Lib.compareBytes (strOfNums l).data.toList (strOfNums m).data.toList = cmpL l m := by
  have key : ∀ (l m : List Int), (∀ x ∈ l, 0 ≤ x ∧ x < 256) → (∀ x ∈ m, 0 ≤ x ∧ x < 256) → l.length = m.length → Lib.compareBytes (l.map fun x => UInt8.ofNat x.toNat) (m.map fun x => UInt8.ofNat x.toNat) = cmpL l m := by
    intro l
    induction l with
    | nil =>
      intro m _ _ h
      cases m with
      | nil => simp [Lib.compareBytes, cmpL]
      | cons _ _ => simp at h
    | cons a l ih =>
      intro m hl hm h
      cases m with
      | nil => simp at h
      | cons c m =>
        have ha := hl a List.mem_cons_self
        have hc := hm c List.mem_cons_self
        have hr := ih m (fun x hx => hl x (List.mem_cons_of_mem _ hx)) (fun x hx => hm x (List.mem_cons_of_mem _ hx)) (by simpa using h)
        have e1 : (UInt8.ofNat a.toNat < UInt8.ofNat c.toNat) ↔ a < c := by
          rw [UInt8.lt_iff_toNat_lt, UInt8.toNat_ofNat', UInt8.toNat_ofNat']
          omega
        have e2 : (UInt8.ofNat c.toNat < UInt8.ofNat a.toNat) ↔ c < a := by
          rw [UInt8.lt_iff_toNat_lt, UInt8.toNat_ofNat', UInt8.toNat_ofNat']
          omega
        simp only [List.map_cons, Lib.compareBytes, cmpL, e1, e2, hr]
  intro l m hl hm h
  rw [← key l m hl hm h]
  simp [strOfNums]
set_option maxRecDepth 100000 in
theorem Cmp6 (b b' : List Int) (hr : b.length = 16) (hr' : b'.length = 16) (w : World) : Calls Tryz.prog 81 #[.agg (adrC true b).toArray, .agg (adrC true b').toArray] w fun e w' => e = .returned (.int .i64 (Lib.compareBytes (strOfNums b).data.toList (strOfNums b').data.toList)) ∧ Mod (fun _ => False) w w' := by
  have c0 : (adrC true b)[0]? = some (.bool true) := rfl
  have c1 : (adrC true b')[0]? = some (.bool true) := rfl
  have hA := rangeOf (allocFar (x := .cells (adrC true b').toArray 36) (allocNew w (.cells (adrC true b).toArray 36)))
  have hB := rangeOf (allocNew (w.alloc (.cells (adrC true b).toArray 36)) (.cells (adrC true b').toArray 36))
  have hm : Mod (fun _ => False) w ((w.alloc (.cells (adrC true b).toArray 36)).alloc (.cells (adrC true b').toArray 36)) := ((Mod.refl _ _).alloc _).alloc _
  rw [show (w.alloc (.cells (adrC true b).toArray 36)).heap.size = w.heap.size + 1 by simp] at hB
  have HA := Lib.hid hA
  have HB := Lib.hid hB
  have HM := Lib.hid hm
  clear hA hB hm
  go_enter Tryz.func81, Tryz.ntmps81
  go_wp2_with fail
  obtain ⟨W0, hW0⟩ : ∃ W0, W0 = ((w.alloc (.cells (adrC true b).toArray 36)).alloc (.cells (adrC true b').toArray 36)) := ⟨_, rfl⟩
  obtain ⟨pc, hpc⟩ : ∃ pc, pc = w.heap.size + 1 := ⟨_, rfl⟩
  obtain ⟨pb, hpb⟩ : ∃ pb, pb = w.heap.size := ⟨_, rfl⟩
  have hA := HA.out
  have hB := HB.out
  have hm := HM.out
  clear HA HB HM
  rw [← hW0] at hA hB hm
  rw [← hpc] at hB
  rw [← hpb] at hA
  rw [← hW0]
  try rw [← hpc]
  try rw [← hpb]
  have HA := Lib.hid hA
  have HB := Lib.hid hB
  have HM := Lib.hid hm
  clear hA hB hm hW0 hpc hpb
  have hS : W0.drew.rangeAt pb 0 (adrC true b) ∧ W0.drew.rangeAt pc 0 (adrC true b') := ⟨HA.out, HB.out⟩
  refine wp_region_plan [] [(0, 1), (2, 1), (1, 2), (3, 2), (4, 2), (5, 0)] (fun w' : World => w'.rangeAt pb 0 (adrC true b) ∧ w'.rangeAt pc 0 (adrC true b')) (by kernel_rfl) (by kernel_rfl) (fun d v c a w h => by first | (cases d <;> exact h) | exact HP d v c a w h) ?_
  (refine plan_held (v := .agg (adrC true b).toArray) rfl rfl hS (fun w0 h0 => exec_load_mid _ _ rfl pb 0 rfl (adrC true b) _ w0 h0.1 Tryz.underlying36 rfl (by rw [adrSize]; simp [adrC, hr])) ?_; try simp only [nA, nB, nC, Act.put, nD, nE, nF])
  (refine plan_held (v := .agg (adrC true b').toArray) rfl rfl hS (fun w0 h0 => exec_load_mid _ _ rfl pc 0 rfl (adrC true b') _ w0 h0.2 Tryz.underlying36 rfl (by rw [adrSize]; simp [adrC, hr'])) ?_; try simp only [nA, nB, nC, Act.put, nD, nE, nF])
  (refine plan_do rfl rfl fun K hK => ?_; try simp only [nA, nB, nC])
  go_simp
  refine (bytes6 b hr _).mono ?_; rintro e W1 ⟨rfl, hm⟩
  have hS1 := And.intro (keepRange hm hS.1) (keepRange hm hS.2)
  replace HM := Lib.hid (HM.out.drew.trans hm fun _ f => f.elim)
  refine hK _ _ hS1 ?_
  clear hK K hm hS
  try simp only [nA, nB, nC, Act.put, nD, nE, nF]
  (refine plan_do rfl rfl fun K hK => ?_; try simp only [nA, nB, nC])
  go_simp
  refine (bytes6 b' hr' _).mono ?_; rintro e W2 ⟨rfl, hm⟩
  have hS2 := And.intro (keepRange hm hS1.1) (keepRange hm hS1.2)
  replace HM := Lib.hid (HM.out.trans hm fun _ f => f.elim)
  refine hK _ _ hS2 ?_
  clear hK K hm hS1
  try simp only [nA, nB, nC, Act.put, nD, nE, nF]
  (refine plan_do rfl rfl fun K hK => ?_; try simp only [nA, nB, nC])
  go_simp
  refine (Compare_any _ _ _).mono ?_; rintro e W3 ⟨rfl, rfl⟩
  refine hK _ _ hS2 ?_
  clear hK K
  try simp only [nA, nB, nC, Act.put, nD, nE, nF]
  repeat ((first | refine plan_skip rfl rfl ?_ | refine plan_pass2 rfl rfl ?_ | refine plan_pass3 rfl rfl ?_ | (refine plan_take (v := ?_) rfl rfl ?_ ?_; rotate_left; focus (intro w0; go_simp; try with_reducible rfl)) | (refine plan_held (v := ?_) rfl rfl hS2 ?_ ?_; rotate_left; focus (intro w0 hSw; (try dsimp only at hSw); go_split_ands; go_simp; try with_reducible rfl)) | refine plan_skip1 rfl rfl hS2 ?_); simp only [nA, nB, nC, Act.put, nD, nE, nF])
  refine plan_nil ?_
  go_wp2
  go_returns
  exact ⟨rfl, HM.out⟩
theorem Cmp_ne (v v' : Bool) (b b' : List Int) (h : v ≠ v') (w : World) : Calls Tryz.prog 81 #[.agg (adrC v b).toArray, .agg (adrC v' b').toArray] w fun e w' => e = .returned (.int .i64 (cond v' (-1) 1)) ∧ Mod (fun _ => False) w w' := by
  have c0 : (adrC v b)[0]? = some (.bool v) := rfl
  have c1 : (adrC v' b')[0]? = some (.bool v') := rfl
  have HM : Hid (Mod (fun _ => False) w ((w.alloc (.cells (adrC v b).toArray 36)).alloc (.cells (adrC v' b').toArray 36))) := Lib.hid (((Mod.refl _ _).alloc _).alloc _)
  go_enter Tryz.func81, Tryz.ntmps81
  cases v <;> cases v' <;> first | exact absurd rfl h | skip
  · go_wp2
    go_returns
    exact ⟨rfl, HM.out⟩
  · go_wp2
    go_returns
    exact ⟨rfl, HM.out⟩
theorem Cmp_any (v v' : Bool) (b b' : List Int) (hb : adrOk b) (hb' : adrOk b') (w : World) : Calls Tryz.prog 81 #[.agg (adrC v b).toArray, .agg (adrC v' b').toArray] w fun e w' => e = .returned (.int .i64 (cmpA v b v' b')) ∧ Mod (fun _ => False) w w' := by
  by_cases h : v = v'
  · subst h
    cases v with
    | true =>
      rw [show cmpA true b true b' = cmpL b b' by simp [cmpA], ← cmpBytes b b' hb.2 hb'.2 (by rw [hb.1, hb'.1])]
      exact Cmp6 b b' hb.1 hb'.1 w
    | false =>
      obtain ⟨x, y, z, u, r, rfl, hr⟩ := adr_four hb.1
      obtain ⟨x', y', z', u', r', rfl, hr'⟩ := adr_four hb'.1
      rw [show cmpA false (x :: y :: z :: u :: r) false (x' :: y' :: z' :: u' :: r') = cmpL [x, y, z, u] [x', y', z', u'] by simp [cmpA], ← cmpBytes [x, y, z, u] [x', y', z', u'] (fun a ha => hb.2 a (show a ∈ [x, y, z, u] ++ r from List.mem_append_left r ha)) (fun a ha => hb'.2 a (show a ∈ [x', y', z', u'] ++ r' from List.mem_append_left r' ha)) rfl]
      exact Cmp4 x y z u x' y' z' u' r r' hr hr' w
  · rw [show cmpA v b v' b' = cond v' (-1) 1 by unfold cmpA; rw [if_neg h]]
    exact Cmp_ne v v' b b' h w
end Go.Proofs.YtcccdlmngddalaaGreat
