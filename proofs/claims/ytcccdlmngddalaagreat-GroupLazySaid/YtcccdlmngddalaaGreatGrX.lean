/- srcs.Of; own, Turn of states: contracts. -/
import Derived.Test.YtcccdlmngddalaaGreatGrB
import Derived.Test.YtcccdlmngddalaaGreatRowK
import Derived.Test.YtcccdlmngddalaaGreatGrLay
import Derived.Sort.OwnSorted
import Derived.Test.YtcccdlmngddalaaGreatGrE
import Derived.Test.YtcccdlmngddalaaGreatGrG
namespace Go.Proofs.YtcccdlmngddalaaGreat
open Go.RowKit Go.Sort
set_option linter.unusedVariables false
set_option linter.unusedSimpArgs false
theorem slASz : (Tryz.prog.info? 24).map (·.size) = some 1 := by kernel_rfl
/-- what has been taken so far: a block that holds the slice -/
structure OutB (w : World) (base pb : Nat) (v : Value) (out : List Ad) : Prop where
  ge : base ≤ pb
  blk : Blk w pb 24 [v]
  row : RowA w (fun k => base ≤ k) v out
theorem OutB.keep0 {w w' : World} {base pb : Nat} {v : Value} {out : List Ad} (h : OutB w base pb v out) (hm : Mod (fun _ => False) w w') : OutB w' base pb v out := ⟨h.ge, h.blk.keep hm fun f => f, h.row.keep0 hm⟩
set_option maxRecDepth 100000 in
set_option maxHeartbeats 1000000 in
theorem take_any {w : World} {base pb : Nat} {v : Value} {out : List Ad} (h : OutB w base pb v out) (hb : base ≤ w.heap.size) (hn : out.length ≤ 10000) (x : Ad) (is : Bool) :
    Calls Tryz.prog 148 #[.agg x.c.toArray, .bool is, .pointer (some ⟨pb, 0, none⟩)] w fun e w' => e = .returned (.tuple #[]) ∧ (∃ v', OutB w' base pb v' (out ++ ift is x)) ∧ Mod (fun k => base ≤ k) w w' := by
  have hpl : pb < w.heap.size := h.blk.lt
  cases is with
  | false =>
    have HO : Hid (OutB (w.alloc (.cells x.c.toArray 36 (0, 0))) base pb v (out ++ ift false x)) := Lib.hid (by
      have := h.keep0 ((Mod.refl (fun _ => False) w).alloc (.cells x.c.toArray 36 (0, 0)))
      simpa [ift] using this)
    clear h
    go_enter Tryz.func148, Tryz.ntmps148
    go_wp2
    go_end0
    exact ⟨rfl, ⟨v, HO.out⟩, (Mod.refl _ _).alloc _⟩
  | true =>
    have HX := Lib.hid (Blk.new w 36 x.c)
    have HXS := Lib.hid x.c_sz
    have HXL := Lib.hid x.c_len
    have HX1 := Lib.hid x.c_one
    have H0 : Hid (OutB (w.alloc (.cells x.c.toArray 36 (0, 0))) base pb v out) := Lib.hid (h.keep0 ((Mod.refl (fun _ => False) w).alloc _))
    have c0 : (w.alloc (.cells x.c.toArray 36 (0, 0))).cell? ⟨pb, 0, none⟩ = some v := H0.out.blk.cell rfl
    clear h
    go_enter Tryz.func148, Tryz.ntmps148
    go_wp2_with (first
      | (refine wpList_load_blk rfl _ _ rfl w.heap.size 0 rfl 36 x.c x.c _ HX.out (List.take_of_length_le (Nat.le_refl _)) Tryz.underlying36 rfl HXS.out ?_)
      | (refine wpList_buildSlice1 Tryz.elA rfl _ rfl x.c rfl HXL.out (by decide) (by decide) ?_)
      | (at_builtin; refine wpList_append_one Tryz.elA rfl (.tmp 6) (.tmp 8) rfl x.c.toArray (fun k => base ≤ k) v out.length (cellsA out) (H0.out.row.alloc _) _ (allocNewAt (by simp)) rfl rfl (by simpa using HXL.out) (by simpa using HX1.out) (by omega) (by unfold maxLen; omega) ?_; intro v' w' h2 h3; have H2 := Lib.hid h2; have H3 := Lib.hid h3; clear h2 h3; have HB := Lib.hid ((H0.out.blk.alloc _).keep H3.out fun e => H0.out.row.ne H0.out.blk (by decide) e))
      | (refine wpList_store_blk1 rfl _ _ _ rfl pb 0 24 [v] v' rfl rfl HB.out (by simp) slASz (by obtain ⟨_, _, e, _⟩ := H2.out.form; rw [e]; rfl) ?_; intro w5 HB5 HM5))
    go_end0
    have hm : Mod (fun k => base ≤ k) w w' := (((Mod.refl (fun k => base ≤ k) w).alloc _).alloc _).trans H3.out fun k hk => .inl (H0.out.row.2 k hk)
    have h2 : RowA w' (fun k => base ≤ k) v' (out ++ [x]) := by
      have h2 := H2.out
      unfold RowA
      rw [cellsA_app, show cellsA [x] = x.c by simp [cellsA], List.length_append]
      exact h2.mono fun k hk => hk.elim (fun h => h) fun h => by simp at h; omega
    exact ⟨rfl, ⟨v', H0.out.ge, HB5.out, by
      exact h2.keepT HM5.out (HB.out.notA (by decide))⟩, hm.trans HM5.out fun k hk => .inl (by have := H0.out.ge; omega)⟩
theorem RdA.lo {w : World} {v : Value} {l : List Ad} (h : RdA w v l) (k : Nat) (hk : k ≤ l.length) : RdA w (loV 17 v k) (l.drop k) := by
  unfold RdA
  rw [List.length_drop, ← cellsA_drop]
  exact Reads.lo h k 17 hk
def slen : Value → Nat
  | .slice _ n _ => n
  | _ => 0
def tk (p : Bool) (l : List Ad) : List Ad := if p then l else []
theorem tk_nil (p : Bool) : tk p [] = [] := by unfold tk; cases p <;> rfl
theorem tk_snoc (p : Bool) (l : List Ad) (x : Ad) : tk p l ++ ift p x = tk p (l ++ [x]) := by unfold tk ift; cases p <;> simp
theorem mrg_end (f m s : Bool) (al bl : List Ad) (h : al = [] ∨ bl = []) : mrg f m s al bl = tk f al ++ tk s bl := by
  rcases h with rfl | rfl
  · rw [mrg, tk_nil]; rfl
  · cases al with
    | nil => rw [mrg, tk_nil, tk_nil]; cases s <;> rfl
    | cons x al =>
      rw [mrg, tk_nil, List.append_nil]
      · rfl
      · simp
set_option maxRecDepth 100000 in
set_option maxHeartbeats 4000000 in
theorem walk_any (va vb : Value) (la lb : List Ad) (f m s : Bool) (w : World) (ha : RdA w va la) (hb : RdA w vb lb) (hla : la.length ≤ 2000) (hlb : lb.length ≤ 2000) :
    Calls Tryz.prog 131 #[va, vb, .func (.func 81) #[] #[], .bool f, .bool m, .bool s] w fun e w' => ∃ v, e = .returned v ∧ RowA w' (fun k => w.heap.size ≤ k) v (mrg f m s la lb) ∧ Mod (fun _ => False) w w' := by
  have HA := Lib.hid ha
  have HB := Lib.hid hb
  have HLA := Lib.hid hla
  have HLB := Lib.hid hlb
  have HO0 : Hid (OutB (w.alloc (.cells #[.slice none 0 0] 24 (0, 0))) w.heap.size w.heap.size (.slice none 0 0) []) := Lib.hid ⟨Nat.le_refl _, allocNew w _, RowA.nil _ _⟩
  have HM0 : Hid (Mod (fun _ => False) w (w.alloc (.cells #[.slice none 0 0] 24 (0, 0)))) := Lib.hid ((Mod.refl _ _).alloc _)
  obtain ⟨R, hR⟩ : ∃ R, R = mrg f m s la lb := ⟨_, rfl⟩
  have HRL : Hid (R.length ≤ 4000) := Lib.hid (by rw [hR]; have := (mrg_len f m s _ la lb (Nat.le_refl _)).1; omega)
  rw [← hR]
  have HR := Lib.hid hR
  clear ha hb hla hlb hR
  go_enter Tryz.func131, Tryz.ntmps131
  go_wp2_with fail
  go_loopw [0, 1] (fun a0 a1 wr => ∃ (al bl : List Ad) (v : Value) (out : List Ad), RdA w a0 al ∧ RdA w a1 bl ∧ OutB wr w.heap.size w.heap.size v out ∧ Mod (fun _ => False) w wr ∧ out ++ mrg f m s al bl = R ∧ al.length ≤ 2000 ∧ bl.length ≤ 2000) (fun a0 a1 _ => slen a0 + slen a1)
  case atStart => exact ⟨la, lb, _, [], HA.out, HB.out, HO0.out, HM0.out, by rw [HR.out]; rfl, HLA.out, HLB.out⟩
  case round =>
    clear HO0 HM0
    obtain ⟨al, bl, v, out, ha, hb, ho, hm, he, hal, hbl⟩ := hrel
    have HRAX := Lib.hid hal
    have HRBX := Lib.hid hbl
    clear hal hbl
    obtain ⟨na, hna⟩ : ∃ na, na = al.length := ⟨_, rfl⟩
    obtain ⟨nb, hnb⟩ : ∃ nb, nb = bl.length := ⟨_, rfl⟩
    have HRA := Lib.hid ha
    have HRB := Lib.hid hb
    obtain ⟨ada, ca, rfl, hac, hacm, k5⟩ := ha
    obtain ⟨adb, cb, rfl, hbc, hbcm, k6⟩ := hb
    clear k5 k6
    rw [← hna] at HRA hac ⊢
    rw [← hnb] at HRB hbc ⊢
    have HNA := Lib.hid hna
    have HNB := Lib.hid hnb
    have HO := Lib.hid ho
    have HM := Lib.hid hm
    have HE := Lib.hid he
    have HOL : Hid (out.length ≤ 4000) := Lib.hid (by have := congrArg List.length he; rw [List.length_append] at this; have := HRL.out; omega)
    unfold maxLen at hacm hbcm
    clear hna hnb ho hm he
    rcases Nat.eq_zero_or_pos na with h1 | h1
    case' inl => have HX : Hid (al = [] ∨ bl = []) := Lib.hid (.inl (List.eq_nil_of_length_eq_zero (by rw [← HNA.out]; exact h1)))
    case' inr => rcases Nat.eq_zero_or_pos nb with h2 | h2
    case' inr.inl => have HX : Hid (al = [] ∨ bl = []) := Lib.hid (.inr (List.eq_nil_of_length_eq_zero (by rw [← HNB.out]; exact h2)))
    case inr.inr =>
      obtain ⟨x, al', rfl⟩ : ∃ x al', al = x :: al' := by
        cases al with
        | nil => have := HNA.out; simp at this; omega
        | cons x al' => exact ⟨x, al', rfl⟩
      obtain ⟨y, bl', rfl⟩ : ∃ y bl', bl = y :: bl' := by
        cases bl with
        | nil => have := HNB.out; simp at this; omega
        | cons y bl' => exact ⟨y, bl', rfl⟩
      obtain ⟨ga, oa, cap1, e1, k1, k2, hxa⟩ := HRA.out.at (j := 0) (by simp)
      obtain ⟨gb, ob, cap2, e2, k3, k4, hxb⟩ := HRB.out.at (j := 0) (by simp)
      clear k1 k2 k3 k4
      injection e1 with e1 e1a e1b
      injection e2 with e2 e2a e2b
      clear e1a e1b e2a e2b
      subst e1 e2
      have hx := hxa 0 x rfl
      have hy := hxb 0 y rfl
      rw [Nat.zero_mul, Nat.add_zero] at hx hy
      have HX := Lib.hid (keepRange HM.out hx)
      have HY := Lib.hid (keepRange HM.out hy)
      have HXS := Lib.hid x.c_sz
      have HYS := Lib.hid y.c_sz
      have HTA := Lib.hid (HRA.out.lo 1 (by simp))
      have HTB := Lib.hid (HRB.out.lo 1 (by simp))
      have HNA1 : Hid (na = al'.length + 1) := Lib.hid (by rw [HNA.out]; rfl)
      have HNB1 : Hid (nb = bl'.length + 1) := Lib.hid (by rw [HNB.out]; rfl)
      clear hxa hxb hx hy
      have hS : wr.drew.rangeAt ga oa x.c ∧ wr.drew.rangeAt gb ob y.c := ⟨HX.out, HY.out⟩
      go_wp2_with fail
      refine wp_region_plan [7] [(0, 0), (1, 0), (2, 0), (3, 1), (4, 0), (5, 0), (6, 1), (7, 3), (8, 0)] (fun w' : World => w'.rangeAt ga oa x.c ∧ w'.rangeAt gb ob y.c) (by kernel_rfl) (by kernel_rfl) (fun d v c a w h => by first | (cases d <;> exact h) | exact HP d v c a w h) ?_
      repeat ((first | refine plan_skip rfl rfl ?_ | refine plan_pass2 rfl rfl ?_ | refine plan_pass3 rfl rfl ?_ | (refine plan_take (v := ?_) rfl rfl ?_ ?_; rotate_left; focus (intro w0; go_simp; try with_reducible rfl))); simp only [List.getElem_toArray, List.getElem_cons_succ, List.getElem_cons_zero, Act.put, List.setIfInBounds_toArray, List.set_cons_zero, List.set_cons_succ])
      (refine plan_held (v := .agg x.c.toArray) rfl rfl hS (fun w0 h0 => exec_load_mid _ _ rfl ga oa rfl x.c _ w0 h0.1 Tryz.underlying36 rfl HXS.out) ?_; try simp only [List.getElem_toArray, List.getElem_cons_succ, List.getElem_cons_zero, Act.put, List.setIfInBounds_toArray, List.set_cons_zero, List.set_cons_succ])
      repeat ((first | refine plan_skip rfl rfl ?_ | refine plan_pass2 rfl rfl ?_ | refine plan_pass3 rfl rfl ?_ | (refine plan_take (v := ?_) rfl rfl ?_ ?_; rotate_left; focus (intro w0; go_simp; try with_reducible rfl))); simp only [List.getElem_toArray, List.getElem_cons_succ, List.getElem_cons_zero, Act.put, List.setIfInBounds_toArray, List.set_cons_zero, List.set_cons_succ])
      (refine plan_held (v := .agg y.c.toArray) rfl rfl hS (fun w0 h0 => exec_load_mid _ _ rfl gb ob rfl y.c _ w0 h0.2 Tryz.underlying36 rfl HYS.out) ?_; try simp only [List.getElem_toArray, List.getElem_cons_succ, List.getElem_cons_zero, Act.put, List.setIfInBounds_toArray, List.set_cons_zero, List.set_cons_succ])
      repeat ((first | refine plan_skip rfl rfl ?_ | refine plan_pass2 rfl rfl ?_ | refine plan_pass3 rfl rfl ?_ | (refine plan_take (v := ?_) rfl rfl ?_ ?_; rotate_left; focus (intro w0; go_simp; try with_reducible rfl))); simp only [List.getElem_toArray, List.getElem_cons_succ, List.getElem_cons_zero, Act.put, List.setIfInBounds_toArray, List.set_cons_zero, List.set_cons_succ])
      (refine plan_end rfl rfl rfl fun K hK => ?_; (try simp only [List.getElem_toArray, List.getElem_cons_succ, List.getElem_cons_zero]))
      go_simp
      refine (Cmp_ad x y _).mono ?_; rintro e W1 ⟨rfl, hm1⟩
      have hm1' : Mod (fun _ => False) wr W1 := ((Mod.refl _ wr).drew).trans hm1 fun _ f => f.elim
      have HX1 := Lib.hid (keepRange hm1' HX.out)
      have HY1 := Lib.hid (keepRange hm1' HY.out)
      have HO1 := Lib.hid (HO.out.keep0 hm1')
      have HM1 := Lib.hid (HM.out.trans hm1' fun _ f => f.elim)
      have HB1 : Hid (w.heap.size ≤ W1.heap.size) := Lib.hid HM1.out.size
      obtain ⟨c, hc⟩ : ∃ c, c = x.cmp y := ⟨_, rfl⟩
      rw [← hc]
      have HC := Lib.hid hc
      refine hK _ _ ?_
      clear hK K hm1 hm1' hS hc HX HY HO HM
      try simp only [List.getElem_toArray, List.getElem_cons_succ, List.getElem_cons_zero, Act.put, List.setIfInBounds_toArray, List.set_cons_zero, List.set_cons_succ]
      repeat ((first | refine plan_skip rfl rfl ?_ | refine plan_pass2 rfl rfl ?_ | refine plan_pass3 rfl rfl ?_ | (refine plan_take (v := ?_) rfl rfl ?_ ?_; rotate_left; focus (intro w0; go_simp; try with_reducible rfl))); simp only [List.getElem_toArray, List.getElem_cons_succ, List.getElem_cons_zero, Act.put, List.setIfInBounds_toArray, List.set_cons_zero, List.set_cons_succ])
      refine plan_nil ?_
      have HLX : ∀ w0 : World, True := fun _ => trivial
      rcases Int.lt_trichotomy c 0 with h3 | h3 | h3
      · have HEQ : Hid (mrg f m s (x :: al') (y :: bl') = ift f x ++ mrg f m s al' (y :: bl')) := Lib.hid (by rw [mrg, if_pos (by rw [← HC.out]; exact h3)])
        go_wp2_with (first
          | (refine wpList_load_midG rfl _ _ rfl ga oa rfl x.c _ HX1.out Tryz.underlying36 rfl HXS.out ?_)
          | (go_at_call 148; refine (take_any HO1.out HB1.out (by have := HOL.out; omega) x f).mono ?_; rintro e W2 ⟨rfl, ⟨v2, ho2⟩, hm2⟩; have HO2 := Lib.hid ho2; have HM2 := Lib.hid hm2; clear ho2 hm2)
          | (refine wpList_val rfl (loV 17 (.slice (some ⟨ga, oa, none⟩) na ca) 1) (exec_slice_lo Tryz.elA rfl HRA.out rfl 1 rfl (by omega) _) ?_))
        go_roundw
        case rel => exact ⟨al', y :: bl', v2, _, HTA.out, HRB.out, HO2.out, HM1.out.trans HM2.out fun k hk => .inr hk, by rw [List.append_assoc, ← HEQ.out]; exact HE.out, by have := HRAX.out; simp at this ⊢; omega, by have := HRBX.out; simp at this ⊢; omega⟩
        case measure => simp [slen, loV]; omega
      · have HEQ : Hid (mrg f m s (x :: al') (y :: bl') = ift m x ++ mrg f m s al' bl') := Lib.hid (by rw [mrg, if_neg (by rw [← HC.out]; omega), if_neg (by rw [← HC.out]; omega)])
        subst h3
        go_wp2_with (first
          | (refine wpList_load_midG rfl _ _ rfl ga oa rfl x.c _ HX1.out Tryz.underlying36 rfl HXS.out ?_)
          | (go_at_call 148; refine (take_any HO1.out HB1.out (by have := HOL.out; omega) x m).mono ?_; rintro e W2 ⟨rfl, ⟨v2, ho2⟩, hm2⟩; have HO2 := Lib.hid ho2; have HM2 := Lib.hid hm2; clear ho2 hm2))
        refine wp_region_plan [] [(0, 0), (1, 0), (2, 0), (3, 0), (4, 0), (5, 0)] (fun _ : World => True) (by kernel_rfl) (by kernel_rfl) (fun d v c a w h => by first | (cases d <;> exact h) | exact HP d v c a w h) ?_
        repeat ((first | refine plan_skip rfl rfl ?_ | refine plan_pass2 rfl rfl ?_ | refine plan_pass3 rfl rfl ?_ | (refine plan_take (v := ?_) rfl rfl ?_ ?_; rotate_left; focus (intro w0; go_simp; try with_reducible rfl))); simp only [List.getElem_toArray, List.getElem_cons_succ, List.getElem_cons_zero, Act.put, List.setIfInBounds_toArray, List.set_cons_zero, List.set_cons_succ])
        refine plan_take (v := loV 17 (.slice (some ⟨ga, oa, none⟩) na ca) 1) rfl rfl (fun w0 => exec_slice_lo Tryz.elA rfl HRA.out rfl 1 rfl (by simp) w0) ?_
        try simp only [List.getElem_toArray, List.getElem_cons_succ, List.getElem_cons_zero, Act.put, List.setIfInBounds_toArray, List.set_cons_zero, List.set_cons_succ]
        repeat ((first | refine plan_skip rfl rfl ?_ | refine plan_pass2 rfl rfl ?_ | refine plan_pass3 rfl rfl ?_ | (refine plan_take (v := ?_) rfl rfl ?_ ?_; rotate_left; focus (intro w0; go_simp; try with_reducible rfl))); simp only [List.getElem_toArray, List.getElem_cons_succ, List.getElem_cons_zero, Act.put, List.setIfInBounds_toArray, List.set_cons_zero, List.set_cons_succ])
        refine plan_take (v := loV 17 (.slice (some ⟨gb, ob, none⟩) nb cb) 1) rfl rfl (fun w0 => exec_slice_lo Tryz.elA rfl HRB.out rfl 1 rfl (by simp) w0) ?_
        try simp only [List.getElem_toArray, List.getElem_cons_succ, List.getElem_cons_zero, Act.put, List.setIfInBounds_toArray, List.set_cons_zero, List.set_cons_succ]
        repeat ((first | refine plan_skip rfl rfl ?_ | refine plan_pass2 rfl rfl ?_ | refine plan_pass3 rfl rfl ?_ | (refine plan_take (v := ?_) rfl rfl ?_ ?_; rotate_left; focus (intro w0; go_simp; try with_reducible rfl))); simp only [List.getElem_toArray, List.getElem_cons_succ, List.getElem_cons_zero, Act.put, List.setIfInBounds_toArray, List.set_cons_zero, List.set_cons_succ])
        refine plan_nil ?_
        go_wp2
        go_roundw
        case rel => exact ⟨al', bl', v2, _, HTA.out, HTB.out, ⟨HO2.out.ge, HO2.out.blk, HO2.out.row⟩, (HM1.out.trans HM2.out fun k hk => .inr hk).drew, by rw [List.append_assoc, ← HEQ.out]; exact HE.out, by have := HRAX.out; simp at this ⊢; omega, by have := HRBX.out; simp at this ⊢; omega⟩
        case measure => simp [slen, loV]; omega
      · have HEQ : Hid (mrg f m s (x :: al') (y :: bl') = ift s y ++ mrg f m s (x :: al') bl') := Lib.hid (by rw [mrg, if_neg (by rw [← HC.out]; omega), if_pos (by rw [← HC.out]; exact h3)])
        go_wp2_with (first
          | (refine wpList_load_midG rfl _ _ rfl gb ob rfl y.c _ HY1.out Tryz.underlying36 rfl HYS.out ?_)
          | (go_at_call 148; refine (take_any HO1.out HB1.out (by have := HOL.out; omega) y s).mono ?_; rintro e W2 ⟨rfl, ⟨v2, ho2⟩, hm2⟩; have HO2 := Lib.hid ho2; have HM2 := Lib.hid hm2; clear ho2 hm2)
          | (refine wpList_val rfl (loV 17 (.slice (some ⟨gb, ob, none⟩) nb cb) 1) (exec_slice_lo Tryz.elA rfl HRB.out rfl 1 rfl (by omega) _) ?_))
        go_roundw
        case rel => exact ⟨x :: al', bl', v2, _, HRA.out, HTB.out, HO2.out, HM1.out.trans HM2.out fun k hk => .inr hk, by rw [List.append_assoc, ← HEQ.out]; exact HE.out, by have := HRAX.out; simp at this ⊢; omega, by have := HRBX.out; simp at this ⊢; omega⟩
        case measure => simp [slen, loV]; omega
    case inl =>
      have HE1 : Hid (out ++ (tk f al ++ tk s bl) = R) := Lib.hid (by rw [← mrg_end f m s al bl HX.out]; exact HE.out)
      have HRBL : Hid (bl.length ≤ 2000) := HRBX
      clear HX HE
      obtain rfl : al = [] := List.eq_nil_of_length_eq_zero (by rw [← HNA.out]; exact h1)
      subst h1
      go_wp2_with fail
      go_loopw [71] (fun iv wq => iv = .int .i64 0 ∧ wq = wr) (fun _ _ => 0)
      case atStart => exact ⟨rfl, rfl⟩
      case round =>
        obtain ⟨rfl, rfl⟩ := hrel
        go_wp2_with fail
        go_loopw [82] (fun iv wk => ∃ (j : Nat) (vk : Value) (outk : List Ad), j ≤ nb ∧ iv = .int .i64 (j : Int) ∧ OutB wk w.heap.size w.heap.size vk outk ∧ Mod (fun _ => False) w wk ∧ outk = out ++ tk s (bl.take j)) (fun iv _ => nb - (intOf iv).toNat)
        case atStart => exact ⟨0, v, out, Nat.zero_le _, rfl, HO.out, HM.out, by rw [List.take_zero, tk_nil, List.append_nil]⟩
        case round =>
          clear HO HM
          obtain ⟨j, vk, outk, hj, rfl, ho, hm, he⟩ := hrel
          have HOK := Lib.hid ho
          have HMK := Lib.hid hm
          have HEK := Lib.hid he
          clear ho hm he
          by_cases hlt : j < nb
          · obtain ⟨x, hx⟩ : ∃ x, bl[j]? = some x := ⟨_, List.getElem?_eq_getElem (by rw [← HNB.out]; exact hlt)⟩
            obtain ⟨g, o, cap1, e1, k1, k2, hxa⟩ := HRB.out.at (j := j) (by rw [← HNB.out]; exact hlt)
            injection e1 with e1 e1a e1b
            subst e1
            have HXR := Lib.hid (keepRange HMK.out (hxa j x hx))
            have HXG := Lib.hid hx
            have HXS := Lib.hid x.c_sz
            have HX1 := Lib.hid x.c_one
            have HNB0 := Lib.hid (Blk.new wr 36 (adrC false z16))
            have HFIT : Hid (0 + x.c.length ≤ (adrC false z16).length) := Lib.hid (by rw [x.c_len]; decide)
            have HOL1 : Hid (outk.length ≤ 10000) := Lib.hid (by rw [HEK.out, List.length_append]; have h1 : (tk s (bl.take j)).length ≤ bl.length := (by unfold tk; split <;> simp <;> omega); have h2 := HOL.out; have h3 := HRBL.out; omega)
            clear e1a e1b k1 k2 hxa hx
            go_wp2_with (first
              | (refine wpList_load_midG rfl _ _ rfl g (o + j * 17) rfl x.c _ HXR.out Tryz.underlying36 rfl HXS.out ?_)
              | (refine wpList_store_blk rfl _ _ _ rfl wr.heap.size 0 36 (adrC false z16) x.c rfl rfl HNB0.out HFIT.out HXS.out HX1.out ?_; intro w3 HB3 HM3; have HB := Lib.hid (splice_all HB3.out (by rw [x.c_len]; rfl)); have HM4 : Hid (Mod (fun _ => False) wr w3) := Lib.hid (((Mod.refl _ _).alloc _).trans HM3.out fun x hx => .inr (by omega)); have HO3 := Lib.hid (HOK.out.keep0 HM4.out); have HS3 : Hid (w.heap.size ≤ w3.heap.size) := Lib.hid (Nat.le_trans HMK.out.size HM4.out.size))
              | (refine wpList_load_blk rfl _ _ rfl wr.heap.size 0 rfl 36 x.c x.c _ HB.out (List.take_of_length_le (Nat.le_refl _)) Tryz.underlying36 rfl HXS.out ?_)
              | (go_at_call 148; refine (take_any HO3.out HS3.out HOL1.out x s).mono ?_; rintro e W2 ⟨rfl, ⟨v2, ho2⟩, hm2⟩; have HO2 := Lib.hid ho2; have HM2 := Lib.hid hm2; clear ho2 hm2))
            go_roundw
            case rel => exact ⟨j + 1, v2, _, by omega, by go_num, HO2.out, (HMK.out.trans HM4.out fun k hk => .inl hk).trans HM2.out fun k hk => .inr hk, by rw [HEK.out, List.append_assoc, tk_snoc]; congr 2; rw [List.take_add_one, HXG.out]; rfl⟩
            case measure => simp [intOf]; omega
          · have hjn : j = nb := by omega
            subst hjn
            have HET : Hid (outk = out ++ tk s bl) := Lib.hid (by rw [HEK.out, List.take_of_length_le (by have := HNB.out; omega)])
            have c0 : wr.cell? ⟨w.heap.size, 0, none⟩ = some vk := HOK.out.blk.cell rfl
            go_wp2
            go_ret
            refine ⟨vk, rfl, ?_, HMK.out⟩
            have := HOK.out.row
            rw [HET.out] at this
            rw [← HE1.out]
            simpa [tk_nil] using this
    case inr.inl =>
      have HE1 : Hid (out ++ (tk f al ++ tk s bl) = R) := Lib.hid (by rw [← mrg_end f m s al bl HX.out]; exact HE.out)
      have HRAL : Hid (al.length ≤ 2000) := HRAX
      clear HX HE
      obtain rfl : bl = [] := List.eq_nil_of_length_eq_zero (by rw [← HNB.out]; exact h2)
      subst h2
      go_wp2_with fail
      go_loopw [71] (fun iv wk => ∃ (j : Nat) (vk : Value) (outk : List Ad), j ≤ na ∧ iv = .int .i64 (j : Int) ∧ OutB wk w.heap.size w.heap.size vk outk ∧ Mod (fun _ => False) w wk ∧ outk = out ++ tk f (al.take j)) (fun iv _ => na - (intOf iv).toNat)
      case atStart => exact ⟨0, v, out, Nat.zero_le _, rfl, HO.out, HM.out, by rw [List.take_zero, tk_nil, List.append_nil]⟩
      case round =>
        clear HO HM
        obtain ⟨j, vk, outk, hj, rfl, ho, hm, he⟩ := hrel
        have HOK := Lib.hid ho
        have HMK := Lib.hid hm
        have HEK := Lib.hid he
        clear ho hm he
        by_cases hlt : j < na
        · obtain ⟨x, hx⟩ : ∃ x, al[j]? = some x := ⟨_, List.getElem?_eq_getElem (by rw [← HNA.out]; exact hlt)⟩
          obtain ⟨g, o, cap1, e1, k1, k2, hxa⟩ := HRA.out.at (j := j) (by rw [← HNA.out]; exact hlt)
          injection e1 with e1 e1a e1b
          subst e1
          have HXR := Lib.hid (keepRange HMK.out (hxa j x hx))
          have HXG := Lib.hid hx
          have HXS := Lib.hid x.c_sz
          have HX1 := Lib.hid x.c_one
          have HNB0 := Lib.hid (Blk.new wr 36 (adrC false z16))
          have HFIT : Hid (0 + x.c.length ≤ (adrC false z16).length) := Lib.hid (by rw [x.c_len]; decide)
          have HOL1 : Hid (outk.length ≤ 10000) := Lib.hid (by rw [HEK.out, List.length_append]; have h1 : (tk f (al.take j)).length ≤ al.length := (by unfold tk; split <;> simp <;> omega); have h2 := HOL.out; have h3 := HRAL.out; omega)
          clear e1a e1b k1 k2 hxa hx
          go_wp2_with (first
            | (refine wpList_load_midG rfl _ _ rfl g (o + j * 17) rfl x.c _ HXR.out Tryz.underlying36 rfl HXS.out ?_)
            | (refine wpList_store_blk rfl _ _ _ rfl wr.heap.size 0 36 (adrC false z16) x.c rfl rfl HNB0.out HFIT.out HXS.out HX1.out ?_; intro w3 HB3 HM3; have HB := Lib.hid (splice_all HB3.out (by rw [x.c_len]; rfl)); have HM4 : Hid (Mod (fun _ => False) wr w3) := Lib.hid (((Mod.refl _ _).alloc _).trans HM3.out fun x hx => .inr (by omega)); have HO3 := Lib.hid (HOK.out.keep0 HM4.out); have HS3 : Hid (w.heap.size ≤ w3.heap.size) := Lib.hid (Nat.le_trans HMK.out.size HM4.out.size))
            | (refine wpList_load_blk rfl _ _ rfl wr.heap.size 0 rfl 36 x.c x.c _ HB.out (List.take_of_length_le (Nat.le_refl _)) Tryz.underlying36 rfl HXS.out ?_)
            | (go_at_call 148; refine (take_any HO3.out HS3.out HOL1.out x f).mono ?_; rintro e W2 ⟨rfl, ⟨v2, ho2⟩, hm2⟩; have HO2 := Lib.hid ho2; have HM2 := Lib.hid hm2; clear ho2 hm2))
          go_roundw
          case rel => exact ⟨j + 1, v2, _, by omega, by go_num, HO2.out, (HMK.out.trans HM4.out fun k hk => .inl hk).trans HM2.out fun k hk => .inr hk, by rw [HEK.out, List.append_assoc, tk_snoc]; congr 2; rw [List.take_add_one, HXG.out]; rfl⟩
          case measure => simp [intOf]; omega
        · have hjn : j = na := by omega
          subst hjn
          have HET : Hid (outk = out ++ tk f al) := Lib.hid (by rw [HEK.out, List.take_of_length_le (by have := HNA.out; omega)])
          go_wp2_with fail
          go_loopw [82] (fun iv wq => iv = .int .i64 0 ∧ wq = wr) (fun _ _ => 0)
          case atStart => exact ⟨rfl, rfl⟩
          case round =>
            obtain ⟨rfl, rfl⟩ := hrel
            have c0 : wr.cell? ⟨w.heap.size, 0, none⟩ = some vk := HOK.out.blk.cell rfl
            go_wp2
            go_ret
            refine ⟨vk, rfl, ?_, HMK.out⟩
            have := HOK.out.row
            rw [HET.out] at this
            rw [← HE1.out]
            simpa [tk_nil] using this
end Go.Proofs.YtcccdlmngddalaaGreat
namespace Go.Proofs.YtcccdlmngddalaaGreat
open Go.RowKit Go.Sort Go.Shelf
set_option linter.unusedVariables false
set_option linter.unusedSimpArgs false
theorem ltA (x y : Ad) : ltOf Ad.cmp x y = decide (x.rk < y.rk) := by
  unfold ltOf
  by_cases h : x.rk < y.rk
  · rw [decide_eq_true h, decide_eq_true ((Ad.cmp_lt x y).2 h)]
  · rw [decide_eq_false h, decide_eq_false fun e => h ((Ad.cmp_lt x y).1 e)]
theorem swoA : SWO (ltOf Ad.cmp) where
  irrefl x := by rw [ltA]; simp
  trans x y z h1 h2 := by rw [ltA] at *; simp at *; omega
  ntrans x y z h1 h2 := by rw [ltA] at *; simp at *; omega
theorem flat_eq (l : List Ad) : flatK Ad.c 17 l.toArray = (cellsA l).toArray := by
  refine ext_get! (by simp [cellsA_len]) fun t ht => ?_
  have ht' : t < l.toArray.size * 17 := by simpa using ht
  have h1 : t < l.length * 17 := by simpa using ht'
  have hq : t / 17 < l.length := by omega
  rw [get_flatK _ _ _ _ ht']
  have hx : l[t / 17]? = some l[t / 17] := List.getElem?_eq_getElem hq
  have e1 : l.toArray[t / 17]! = l[t / 17] := by rw [getElem!_pos l.toArray (t / 17) (by simpa using hq)]; simp
  rw [e1]
  have h2 := cellsA_get hx
  have h3 : (cellsA l)[t]? = (l[t / 17]).c[t % 17]? := by
    rw [← h2, List.getElem?_take_of_lt (by omega), List.getElem?_drop]
    congr 1
    omega
  have h4 : t < (cellsA l).length := by rw [cellsA_len]; exact h1
  have h5 : t % 17 < (l[t / 17]).c.length := by rw [Ad.c_len]; omega
  rw [List.getElem?_eq_getElem h4, List.getElem?_eq_getElem h5] at h3
  injection h3 with h3
  rw [getElem!_pos (l[t / 17]).c (t % 17) h5, getElem!_pos (cellsA l).toArray t (by simpa using h4)]
  simpa using h3.symm
theorem enters_cmp : ∀ args w, (callFunc 81 args).run Tryz.prog w = .ok (.enter 81 args) w := enters_of Tryz.func81 (by kernel_rfl) rfl
theorem isAggA : ∀ w, (isAgg (Tryz.sortF_ren.t 24)).run Tryz.prog w = .ok true w := Tryz.isAgg36
theorem sizeA : ∀ w, (Go.sizeOf (Tryz.sortF_ren.t 24)).run Tryz.prog w = .ok 17 w := Tryz.sizeOf36
theorem take_putCellsA (cur : Array Value) (l : List Ad) (h : (cellsA l).length ≤ cur.size) : (putCells id 0 (flatK Ad.c 17 l.toArray) cur).toList.take (cellsA l).length = cellsA l := by
  rw [flat_eq]
  apply List.ext_getElem?
  intro j
  by_cases hj : j < (cellsA l).length
  · rw [List.getElem?_take_of_lt hj, Array.getElem?_toList]
    simp [putCells, hj, show j < cur.size by omega]
  · rw [List.getElem?_take_eq_none (by omega), List.getElem?_eq_none (by omega)]
theorem Sort_any {w : World} {f : Nat → Prop} {v : Value} {l : List Ad} (h : RowA w f v l) (hn : l.length ≤ 5000) :
    Calls Tryz.prog 120 #[v, .func (.func 81) #[] #[]] w fun e w' => e = .returned (.tuple #[]) ∧ ∃ l' : List Ad, l'.Perm l ∧ (l'.Pairwise fun a b => a.rk ≤ b.rk) ∧ RowA w' f v l' ∧ Mod (fun k => v.ownBlock = some k) w w' := by
  obtain ⟨⟨hl, h1⟩, h2⟩ := h
  rcases h1 with ⟨rfl, h0⟩ | ⟨g, cap, cur, rfl, hb, hg, hnc, hcm, hcs, ht⟩
  · refine (AnyF.slices_SortFunc_none Tryz.sortF none 0 _ w).mono ?_
    rintro e w' ⟨rfl, rfl⟩
    have hl0 : l = [] := List.eq_nil_of_length_eq_zero h0
    subst hl0
    exact ⟨rfl, [], .refl _, List.Pairwise.nil, RowA.nil _ _, Mod.refl _ _⟩
  · have hH : HoldsK Ad.c 17 w g 0 l.toArray := by
      unfold HoldsK
      rw [flat_eq]
      intro j hj
      have hj' : j < (cellsA l).length := by simpa using hj
      refine ⟨?_, by rw [Nat.zero_add]; exact freeOf hg j⟩
      rw [Nat.zero_add, cellOf hg, getElem!_pos (cellsA l).toArray j hj]
      have h3 : (cur.toList.take (l.length * 17))[j]? = (cellsA l)[j]? := by rw [ht]
      rw [List.getElem?_take_of_lt (by rw [← hl]; exact hj'), Array.getElem?_toList] at h3
      rw [h3, List.getElem?_eq_getElem hj']
      simp
    have hs : l.toArray.size = l.length := by simp
    have := AnyQ.slices_SortFunc Tryz.sortF 17 isAggA sizeA Ad.c Ad.c_len Ad.c_one Ad.cmp swoA 81 #[] g 0 cap l.toArray w enters_cmp (fun m os dk _ x y => Cmp_adg x y _) hH (lt_of_block hg) (by rw [hs]; omega)
    rw [hs] at this
    refine this.mono ?_
    rintro e w' ⟨rfl, d', n, os, hp, hsrt, rfl⟩
    have hds : d'.size = l.length := hp.1.trans hs
    obtain ⟨l', rfl⟩ : ∃ l' : List Ad, d' = l'.toArray := ⟨d'.toList, by simp⟩
    have hl' : l'.length = l.length := by simpa using hds
    have hc' : (cellsA l').length = l.length * 17 := by rw [cellsA_len, hl']
    refine ⟨rfl, l', ?_, ?_, ⟨⟨by rw [cellsA_len, hl'], .inr ⟨g, cap, putCells id 0 (flatK Ad.c 17 l'.toArray) cur, by rw [hl'], hb, ?_, by rw [hl']; exact hnc, hcm, by simp [putCells, hcs], ?_⟩⟩, fun x hx => h2 x (by simpa [Value.ownBlock] using hx)⟩, ?_⟩
    · have := hp.2.2
      rw [show (l'.toArray.extract 0 l.length) = l'.toArray by rw [← hl']; simp, show (l.toArray.extract 0 l.length) = l.toArray by simp] at this
      simpa using this
    · rw [List.pairwise_iff_getElem]
      intro i j h3 h4 hij
      have := hsrt i j (Nat.zero_le _) hij (by omega)
      rw [ltA, getElem!_pos l'.toArray j (by simpa using h4), getElem!_pos l'.toArray i (by simpa using h3)] at this
      simp at this
      exact this
    · unfold sortWorldK putRowK
      rw [heap_grow_old _ _ (by simpa using lt_of_block hg)]
      simp [putRow, mapBlock, Sort.ahead, Array.getElem?_modify, hg, onCells]
    · rw [hl', ← hc']
      exact take_putCellsA cur l' (by rw [hc', hcs]; exact Nat.mul_le_mul_right _ hnc)
    · unfold sortWorldK putRowK
      refine ⟨rfl, rfl, rfl, by simp, fun k hk hne => ?_⟩
      rw [heap_grow_old _ _ (by simpa using hk)]
      have : g ≠ k := fun e => hne (by rw [e]; rfl)
      simp [putRow, mapBlock, Sort.ahead, Array.getElem?_modify, this]
end Go.Proofs.YtcccdlmngddalaaGreat
namespace Go.Proofs.YtcccdlmngddalaaGreat
open Go.RowKit Go.Sort
set_option linter.unusedVariables false
set_option linter.unusedSimpArgs false
section
variable (va vb : Value) (la lb : List Ad) (w : World) (ha : RdA w va la) (hb : RdA w vb lb) (hla : la.length ≤ 2000) (hlb : lb.length ≤ 2000)
include ha hb hla hlb
theorem Or_any : Calls Tryz.prog 94 #[va, vb] w fun e w' => ∃ v, e = .returned v ∧ RowA w' (fun k => w.heap.size ≤ k) v (orA la lb) ∧ Mod (fun _ => False) w w' := by
  have HC := Lib.hid (walk_any va vb la lb true true true w ha hb hla hlb)
  clear ha hb hla hlb
  go_enter Tryz.func94, Tryz.ntmps94
  go_wp2_with (go_at_call 131; refine HC.out.mono ?_; rintro e w1 ⟨v, rfl, hr, hm⟩; have HR := Lib.hid hr; have HM := Lib.hid hm; clear hr hm)
  go_ret
  exact ⟨v, rfl, HR.out, HM.out⟩
theorem And_any : Calls Tryz.prog 127 #[va, vb] w fun e w' => ∃ v, e = .returned v ∧ RowA w' (fun k => w.heap.size ≤ k) v (andA la lb) ∧ Mod (fun _ => False) w w' := by
  have HC := Lib.hid (walk_any va vb la lb false true false w ha hb hla hlb)
  clear ha hb hla hlb
  go_enter Tryz.func127, Tryz.ntmps127
  go_wp2_with (go_at_call 131; refine HC.out.mono ?_; rintro e w1 ⟨v, rfl, hr, hm⟩; have HR := Lib.hid hr; have HM := Lib.hid hm; clear hr hm)
  go_ret
  exact ⟨v, rfl, HR.out, HM.out⟩
theorem minus_any : Calls Tryz.prog 147 #[va, vb] w fun e w' => ∃ v, e = .returned v ∧ RowA w' (fun k => w.heap.size ≤ k) v (minA la lb) ∧ Mod (fun _ => False) w w' := by
  have HC := Lib.hid (walk_any va vb la lb true false false w ha hb hla hlb)
  clear ha hb hla hlb
  go_enter Tryz.func147, Tryz.ntmps147
  go_wp2_with (go_at_call 131; refine HC.out.mono ?_; rintro e w1 ⟨v, rfl, hr, hm⟩; have HR := Lib.hid hr; have HM := Lib.hid hm; clear hr hm)
  go_ret
  exact ⟨v, rfl, HR.out, HM.out⟩
theorem Minus_any : Calls Tryz.prog 126 #[va, vb] w fun e w' => ∃ v, e = .returned v ∧ RowA w' (fun k => w.heap.size ≤ k) v (minA la lb) ∧ Mod (fun _ => False) w w' := by
  have HC := Lib.hid (minus_any va vb la lb w ha hb hla hlb)
  clear ha hb hla hlb
  go_enter Tryz.func126, Tryz.ntmps126
  go_wp2_with (go_at_call 147; refine HC.out.mono ?_; rintro e w1 ⟨v, rfl, hr, hm⟩; have HR := Lib.hid hr; have HM := Lib.hid hm; clear hr hm)
  go_ret
  exact ⟨v, rfl, HR.out, HM.out⟩
end
end Go.Proofs.YtcccdlmngddalaaGreat
namespace Go.Proofs.YtcccdlmngddalaaGreat
open Go.RowKit Go.Sort
set_option linter.unusedVariables false
set_option linter.unusedSimpArgs false
theorem kp_filter (ds : Nat → Bool) (p : Ad → Bool) : ∀ (l : List Ad) (j : Nat), (∀ i x, l[i]? = some x → ds (j + i) = !p x) → kp ds j l = l.filter p
  | [], _, _ => rfl
  | x :: l, j, h => by
    have h0 := h 0 x rfl
    rw [Nat.add_zero] at h0
    rw [kp, h0, kp_filter ds p l (j + 1) fun i y hy => by rw [show j + 1 + i = j + (i + 1) by omega]; exact h (i + 1) y (by simpa using hy)]
    cases hp : p x <;> simp [hp]
/-- rows, wherever they lie -/
abbrev RT (w : World) (v : Value) (l : List Ad) : Prop := RowA w (fun _ => True) v l
theorem RowA.sl {w : World} {f : Nat → Prop} {v : Value} {l : List Ad} (h : RowA w f v l) : ∃ ad n cap, v = .slice ad n cap := by
  obtain ⟨ad, cap, e, _⟩ := Row.form h
  exact ⟨ad, _, cap, e⟩
theorem RowA.rt {w : World} {f : Nat → Prop} {v : Value} {l : List Ad} (h : RowA w f v l) : RT w v l := h.mono fun _ _ => trivial
theorem RowA.len {w : World} {f : Nat → Prop} {ad : Option Addr} {n cap : Nat} {l : List Ad} (h : RowA w f (.slice ad n cap) l) : n = l.length ∧ n ≤ cap ∧ cap ≤ maxLen := by
  obtain ⟨ad2, cap2, e, h1, h2, _⟩ := Row.form h
  injection e with _ e2 e3
  subst e3
  exact ⟨e2, by omega, h2⟩
/-- a slice handed out, in blocks of its own -/
def RetA (w : World) (l : List Ad) (e : Ending) (w' : World) : Prop := ∃ ad n cap, e = .returned (.slice ad n cap) ∧ RowA w' (fun k => w.heap.size ≤ k) (.slice ad n cap) l ∧ Mod (fun _ => False) w w'
theorem retA {w w' : World} {l : List Ad} {e : Ending} (h : ∃ v, e = .returned v ∧ RowA w' (fun k => w.heap.size ≤ k) v l ∧ Mod (fun _ => False) w w') : RetA w l e w' := by
  obtain ⟨v, rfl, hr, hm⟩ := h
  obtain ⟨ad, n, cap, rfl⟩ := hr.sl
  exact ⟨ad, n, cap, rfl, hr, hm⟩
section
variable {va vb : Value} {la lb : List Ad} {w : World} (ha : RdA w va la) (hb : RdA w vb lb) (hla : la.length ≤ 2000) (hlb : lb.length ≤ 2000)
include ha hb hla hlb
theorem Or_s : Calls Tryz.prog 94 #[va, vb] w (RetA w (orA la lb)) := (Or_any va vb la lb w ha hb hla hlb).mono fun _ _ h => retA h
theorem And_s : Calls Tryz.prog 127 #[va, vb] w (RetA w (andA la lb)) := (And_any va vb la lb w ha hb hla hlb).mono fun _ _ h => retA h
theorem Minus_s : Calls Tryz.prog 126 #[va, vb] w (RetA w (minA la lb)) := (Minus_any va vb la lb w ha hb hla hlb).mono fun _ _ h => retA h
end
theorem Clone_s {va : Value} {la : List Ad} {w : World} (ha : RdA w va la) (hla : la.length ≤ 2000) : Calls Tryz.prog 90 #[va] w (RetA w la) := (Clone_ad va la w ha (by omega)).mono fun _ _ h => retA h
set_option maxRecDepth 100000 in
theorem Of1_any (x : Ad) (w : World) : Calls Tryz.prog 129 #[.agg x.c.toArray] w fun e w' => e = .returned (.bool (!x.good)) ∧ Mod (fun _ => False) w w' := by
  have HS := Lib.hid x.c_sz
  have HA := Lib.hid (Blk.new w 36 x.c)
  have HM : Hid (Mod (fun _ => False) w (w.alloc (.cells x.c.toArray 36 (0, 0)))) := Lib.hid ((Mod.refl _ _).alloc _)
  go_enter Tryz.func129, Tryz.ntmps129
  go_wp2_with (first | (refine wpList_load_blk rfl _ _ rfl w.heap.size 0 rfl 36 x.c x.c _ HA.out (List.take_of_length_le (Nat.le_refl _)) Tryz.underlying36 rfl HS.out ?_) | (go_at_call 55; refine (Good_ad x _).mono ?_; rintro e w1 ⟨rfl, hm⟩; have HM1 := Lib.hid (HM.out.trans hm fun _ f => f.elim); clear hm))
  go_ret
  exact ⟨rfl, HM1.out⟩
theorem enters_of1 : ∀ args w, (callFunc 129 args).run Tryz.prog w = .ok (.enter 129 args) w := enters_of Tryz.func129 (by kernel_rfl) rfl
theorem delOf (l : List Ad) : Del 129 #[] l (fun i => !((l[i]?.map Ad.good).getD true)) (fun _ _ => True) (fun _ => False) (fun _ => True) where
  eg := enters_of1
  call i x W hx _ := by
    refine (Of1_any x W).mono ?_
    rintro e w' ⟨rfl, hm⟩
    exact ⟨by simp [hx], trivial, hm⟩
  keep _ _ _ _ _ := trivial
set_option maxRecDepth 100000 in
theorem Of_s {va : Value} {la : List Ad} {w : World} (ha : RdA w va la) (hla : la.length ≤ 2000) : Calls Tryz.prog 92 #[va] w (RetA w (ofA la)) := by
  have HC := Lib.hid (Clone_s ha hla)
  clear ha
  go_enter Tryz.func92, Tryz.ntmps92
  go_wp2_with fail
  refine HC.out.mono ?_
  rintro e w1 ⟨a1, n1, c1, rfl, hr1, hm1⟩
  have HR1 := Lib.hid hr1
  have HM1 := Lib.hid hm1
  clear hr1 hm1
  go_wp2_with fail
  refine (DeleteFunc_any (delOf la) HR1.out (fun _ f => f.elim) (fun _ f => f.elim) (fun _ _ => trivial) (fun _ _ => trivial) (by omega) trivial).mono ?_
  rintro e w2 ⟨v2, rfl, hr2, _, hm2⟩
  rw [kp_filter _ Ad.good la 0 fun i x hx => by rw [Nat.zero_add, hx]; rfl] at hr2
  obtain ⟨a2, n2, c2, rfl⟩ := hr2.sl
  have HR2 := Lib.hid hr2
  have HM2 := Lib.hid (HM1.out.trans hm2 fun k hk => .inr (hk.elim (fun f => f.elim) fun h => HR1.out.2 k h))
  clear hr2 hm2
  go_wp2_with fail
  refine (Sort_any HR2.out (Nat.le_trans (List.length_filter_le _ _) (by omega))).mono ?_
  rintro e w3 ⟨rfl, l3, hp3, hs3, hr3, hm3⟩
  have HR3 := Lib.hid hr3
  have HM3 := Lib.hid (HM2.out.trans hm3 fun k hk => .inr (HR2.out.2 k hk))
  have HW : Hid (WAsc l3) := Lib.hid ⟨hs3, fun a ha => (List.mem_filter.1 (hp3.mem_iff.1 ha)).2⟩
  have HP := Lib.hid hp3
  have HL3 : Hid (l3.length ≤ 5000) := Lib.hid (by rw [hp3.length_eq]; exact Nat.le_trans (List.length_filter_le _ _) (by omega))
  clear hr3 hm3 hs3 hp3
  go_wp2_with fail
  refine (Compact_any HR3.out HW.out HL3.out).mono ?_
  rintro e w4 ⟨v4, r, rfl, hr4, has, hm, hm4⟩
  have e : r = ofA la := AS.ext has (ofA_as la) fun x => by rw [hm x, HP.out.mem_iff, List.mem_filter, mem_ofA]
  subst e
  obtain ⟨a4, n4, c4, rfl⟩ := hr4.sl
  have HR4 := Lib.hid hr4
  have HM4 := Lib.hid (HM3.out.trans hm4 fun k hk => .inr (HR3.out.2 k hk))
  clear hr4 hm4 has hm
  go_wp2
  go_ret
  exact ⟨a4, n4, c4, rfl, HR4.out, HM4.out⟩
theorem stSz : (Tryz.prog.info? 26).map (·.size) = some 3 := by kernel_rfl
theorem spSz : (Tryz.prog.info? 28).map (·.size) = some 8 := by kernel_rfl
theorem bSz : (Tryz.prog.info? 4).map (·.size) = some 1 := by kernel_rfl
theorem wp_store_blk {P : Program} {w : World} {o : Oper} {a : Act} {Q : Exit → Act → World → Prop} {K : Act → World → Prop} (ty : TypeId) (x y : Operand) (ho : o.op = .store ty x y) (g off : Nat) (t : TypeId) (cur cs : List Value) (hx : a.eval x = .pointer (some ⟨g, off, none⟩)) (hy : a.eval y = .agg cs.toArray)
    (hg : Blk w g t cur) (hfit : off + cs.length ≤ cur.length) (hi : (P.info? ty).map (·.size) = some cs.length) (h1 : ∀ v ∈ cs, v.oneCell' = true)
    (h : ∀ w', Hid (Blk w' g t (splice cur off cs)) → Hid (Mod (fun k => k = g) w w') → K (a.put o.dst undef) w') : o.wp P a w K Q := by
  have hrun := run_storeAt_blk (P := P) ty g off t cur cs hg hfit hi h1
  unfold Oper.wp execOp
  simp only [ho, hx, hy, Sem.run_bind, Sem.run_pure, hrun, Result.andThen_ok]
  exact h _ (show Hid _ from Lib.hid (blk_setRow hg _)) (show Hid _ from Lib.hid ((Mod.refl (fun k => k = g) w).setRow (g := g) (.inl rfl) _))
def stC (ex : Bool) (v1 v2 : Value) : List Value := [.bool ex, v1, v2]
/-- a state handed out -/
def RetS (w : World) (ex : Bool) (on off : List Ad) (e : Ending) (w' : World) : Prop := ∃ a1 n1 c1 a2 n2 c2, e = .returned (.agg #[.bool ex, .slice a1 n1 c1, .slice a2 n2 c2]) ∧ RT w' (.slice a1 n1 c1) on ∧ RT w' (.slice a2 n2 c2) off ∧ Mod (fun _ => False) w w'
section
variable {w : World} {a1 a2 : Option Addr} {n1 c1 n2 c2 : Nat} {on off : List Ad} (ex : Bool) (h1 : RT w (.slice a1 n1 c1) on) (h2 : RT w (.slice a2 n2 c2) off) (hl1 : on.length ≤ 2000) (hl2 : off.length ≤ 2000)
include h1 h2 hl1 hl2
set_option maxRecDepth 100000 in
theorem gown_s : Calls Tryz.prog 45 #[.agg #[.bool ex, .slice a1 n1 c1, .slice a2 n2 c2]] w (RetS w ex on off) := by
  have H1 := Lib.hid h1
  have H2 := Lib.hid h2
  clear h1 h2
  go_enter Tryz.func45, Tryz.ntmps45
  go_wp2_with fail
  refine wp_new2 (t := 26) (t' := 26) (cs := [.bool ex, .slice a1 n1 c1, .slice a2 n2 c2]) (cs' := [.bool false, .slice none 0 0, .slice none 0 0]) fun W HA HB HM => ?_
  obtain ⟨pa, hpa⟩ : ∃ pa, pa = w.heap.size := ⟨_, rfl⟩
  rw [← hpa] at HA HB
  try rw [← hpa]
  have HPA := Lib.hid hpa
  clear hpa
  have hS : W.drew.cell? ⟨pa, 0, none⟩ = some (.bool ex) ∧ W.drew.cell? ⟨pa, 1, none⟩ = some (.slice a1 n1 c1) ∧ W.drew.cell? ⟨pa, 2, none⟩ = some (.slice a2 n2 c2) := ⟨HA.out.cell rfl, HA.out.cell rfl, HA.out.cell rfl⟩
  refine wp_region_plan [9] [(0, 0), (1, 1), (2, 0), (3, 1), (5, 0), (6, 1), (4, 2), (7, 2), (8, 0), (9, 3)] (fun w' : World => w'.cell? ⟨pa, 0, none⟩ = some (.bool ex) ∧ w'.cell? ⟨pa, 1, none⟩ = some (.slice a1 n1 c1) ∧ w'.cell? ⟨pa, 2, none⟩ = some (.slice a2 n2 c2)) (by kernel_rfl) (by kernel_rfl) (fun d v c a w h => by first | (cases d <;> exact h) | exact HP d v c a w h) ?_
  repeat ((first | refine plan_skip rfl rfl ?_ | refine plan_pass2 rfl rfl ?_ | refine plan_pass3 rfl rfl ?_ | (refine plan_take (v := ?_) rfl rfl ?_ ?_; rotate_left; focus (intro w0; go_simp; try with_reducible rfl)) | (refine plan_held (v := ?_) rfl rfl hS ?_ ?_; rotate_left; focus (intro w0 hSw; (try dsimp only at hSw); go_split_ands; go_simp; try with_reducible rfl)) | refine plan_skip1 rfl rfl hS ?_); simp only [List.getElem_toArray, List.getElem_cons_succ, List.getElem_cons_zero, Act.put, List.setIfInBounds_toArray, List.set_cons_zero, List.set_cons_succ])
  (refine plan_do rfl rfl fun K hK => ?_; try simp only [List.getElem_toArray, List.getElem_cons_succ, List.getElem_cons_zero])
  go_simp
  refine (Clone_s (RowA.rd (RowA.keep0 H1.out (HM.out.drew))) hl1).mono ?_
  rintro e W1 ⟨b1, m1, d1, rfl, hr1, hm1⟩
  have HR1 := Lib.hid hr1.rt
  have HM1 : Hid (Mod (fun _ => False) w W1) := Lib.hid (HM.out.drew.trans hm1 fun _ f => f.elim)
  have HB1 := Lib.hid (HB.out.drew.keep hm1 fun f => f)
  have hS1 : W1.cell? ⟨pa, 0, none⟩ = some (.bool ex) ∧ W1.cell? ⟨pa, 1, none⟩ = some (.slice a1 n1 c1) ∧ W1.cell? ⟨pa, 2, none⟩ = some (.slice a2 n2 c2) := ⟨hm1.cell (fun f => f) hS.1, hm1.cell (fun f => f) hS.2.1, hm1.cell (fun f => f) hS.2.2⟩
  refine hK _ _ hS1 ?_
  clear hK K hr1 hm1 hS HA HB
  try simp only [List.getElem_toArray, List.getElem_cons_succ, List.getElem_cons_zero, Act.put, List.setIfInBounds_toArray, List.set_cons_zero, List.set_cons_succ]
  (refine plan_do rfl rfl fun K hK => ?_; try simp only [List.getElem_toArray, List.getElem_cons_succ, List.getElem_cons_zero])
  go_simp
  refine (Clone_s (RowA.rd (RowA.keep0 H2.out HM1.out)) hl2).mono ?_
  rintro e W2 ⟨b2, m2, d2, rfl, hr2, hm2⟩
  have HR2 := Lib.hid hr2.rt
  have HR12 := Lib.hid (HR1.out.keep0 hm2)
  have HM2 := Lib.hid (HM1.out.trans hm2 fun _ f => f.elim)
  have HB2 := Lib.hid (HB1.out.keep hm2 fun f => f)
  refine hK _ _ ⟨hm2.cell (fun f => f) hS1.1, hm2.cell (fun f => f) hS1.2.1, hm2.cell (fun f => f) hS1.2.2⟩ ?_
  clear hK K hr2 hm2 hS1
  try simp only [List.getElem_toArray, List.getElem_cons_succ, List.getElem_cons_zero, Act.put, List.setIfInBounds_toArray, List.set_cons_zero, List.set_cons_succ]
  repeat ((first | refine plan_skip rfl rfl ?_ | refine plan_pass2 rfl rfl ?_ | refine plan_pass3 rfl rfl ?_ | (refine plan_take (v := ?_) rfl rfl ?_ ?_; rotate_left; focus (intro w0; go_simp; try with_reducible rfl))); simp only [List.getElem_toArray, List.getElem_cons_succ, List.getElem_cons_zero, Act.put, List.setIfInBounds_toArray, List.set_cons_zero, List.set_cons_succ])
  (refine plan_end rfl rfl rfl fun K hK => ?_; (try simp only [List.getElem_toArray, List.getElem_cons_succ, List.getElem_cons_zero]))
  refine wp_store_blk 26 _ _ rfl (pa + 1) 0 26 _ [.bool ex, .slice b1 m1 d1, .slice b2 m2 d2] rfl rfl HB2.out (by simp) stSz (by simp [Value.oneCell']) ?_
  intro W3 HB3 HM3
  refine hK _ _ ?_
  clear hK K
  try simp only [List.getElem_toArray, List.getElem_cons_succ, List.getElem_cons_zero, Act.put, List.setIfInBounds_toArray, List.set_cons_zero, List.set_cons_succ]
  refine plan_nil ?_
  go_wp2
  refine bodyPost_ret (results_blk rfl _ (pa + 1) 26 [.bool ex, .slice b1 m1 d1, .slice b2 m2 d2] rfl (splice_all HB3.out rfl) Tryz.underlying26 rfl stSz) rfl ?_
  refine ⟨b1, m1, d1, b2, m2, d2, rfl, HR12.out.keepT HM3.out (HB2.out.notA (by decide)), HR2.out.keepT HM3.out (HB2.out.notA (by decide)), HM2.out.trans HM3.out fun k hk => .inr ?_⟩
  have := HPA.out
  omega
set_option maxRecDepth 100000 in
theorem fown_s : Calls Tryz.prog 125 #[.agg #[.bool ex, .slice a1 n1 c1, .slice a2 n2 c2]] w (RetS w ex on off) := by
  have H1 := Lib.hid h1
  have H2 := Lib.hid h2
  clear h1 h2
  go_enter Tryz.func125, Tryz.ntmps125
  go_wp2_with fail
  refine wp_new2 (t := 26) (t' := 26) (cs := [.bool ex, .slice a1 n1 c1, .slice a2 n2 c2]) (cs' := [.bool false, .slice none 0 0, .slice none 0 0]) fun W HA HB HM => ?_
  obtain ⟨pa, hpa⟩ : ∃ pa, pa = w.heap.size := ⟨_, rfl⟩
  rw [← hpa] at HA HB
  try rw [← hpa]
  have HPA := Lib.hid hpa
  clear hpa
  have hS : W.drew.cell? ⟨pa, 1, none⟩ = some (.slice a1 n1 c1) ∧ W.drew.cell? ⟨pa, 2, none⟩ = some (.slice a2 n2 c2) := ⟨HA.out.cell rfl, HA.out.cell rfl⟩
  refine wp_region_plan [7, 9] [(0, 0), (1, 1), (3, 0), (4, 1), (2, 2), (6, 0), (5, 2), (7, 3), (8, 0), (9, 3)] (fun w' : World => w'.cell? ⟨pa, 1, none⟩ = some (.slice a1 n1 c1) ∧ w'.cell? ⟨pa, 2, none⟩ = some (.slice a2 n2 c2)) (by kernel_rfl) (by kernel_rfl) (fun d v c a w h => by first | (cases d <;> exact h) | exact HP d v c a w h) ?_
  repeat ((first | refine plan_skip rfl rfl ?_ | refine plan_pass2 rfl rfl ?_ | refine plan_pass3 rfl rfl ?_ | (refine plan_take (v := ?_) rfl rfl ?_ ?_; rotate_left; focus (intro w0; go_simp; try with_reducible rfl)) | (refine plan_held (v := ?_) rfl rfl hS ?_ ?_; rotate_left; focus (intro w0 hSw; (try dsimp only at hSw); go_split_ands; go_simp; try with_reducible rfl)) | refine plan_skip1 rfl rfl hS ?_); simp only [List.getElem_toArray, List.getElem_cons_succ, List.getElem_cons_zero, Act.put, List.setIfInBounds_toArray, List.set_cons_zero, List.set_cons_succ])
  (refine plan_do rfl rfl fun K hK => ?_; try simp only [List.getElem_toArray, List.getElem_cons_succ, List.getElem_cons_zero])
  go_simp
  refine (Clone_s (RowA.rd (RowA.keep0 H1.out (HM.out.drew))) hl1).mono ?_
  rintro e W1 ⟨b1, m1, d1, rfl, hr1, hm1⟩
  have HR1 := Lib.hid hr1.rt
  have HM1 : Hid (Mod (fun _ => False) w W1) := Lib.hid (HM.out.drew.trans hm1 fun _ f => f.elim)
  have HA1 := Lib.hid (HA.out.drew.keep hm1 fun f => f)
  have HB1 := Lib.hid (HB.out.drew.keep hm1 fun f => f)
  have hS1 : W1.cell? ⟨pa, 1, none⟩ = some (.slice a1 n1 c1) ∧ W1.cell? ⟨pa, 2, none⟩ = some (.slice a2 n2 c2) := ⟨hm1.cell (fun f => f) hS.1, hm1.cell (fun f => f) hS.2⟩
  refine hK _ _ hS1 ?_
  clear hK K hr1 hm1 hS HA HB
  try simp only [List.getElem_toArray, List.getElem_cons_succ, List.getElem_cons_zero, Act.put, List.setIfInBounds_toArray, List.set_cons_zero, List.set_cons_succ]
  repeat ((first | refine plan_skip rfl rfl ?_ | refine plan_pass2 rfl rfl ?_ | refine plan_pass3 rfl rfl ?_ | (refine plan_take (v := ?_) rfl rfl ?_ ?_; rotate_left; focus (intro w0; go_simp; try with_reducible rfl)) | (refine plan_held (v := ?_) rfl rfl hS1 ?_ ?_; rotate_left; focus (intro w0 hSw; (try dsimp only at hSw); go_split_ands; go_simp; try with_reducible rfl)) | refine plan_skip1 rfl rfl hS1 ?_); simp only [List.getElem_toArray, List.getElem_cons_succ, List.getElem_cons_zero, Act.put, List.setIfInBounds_toArray, List.set_cons_zero, List.set_cons_succ])
  (refine plan_do rfl rfl fun K hK => ?_; try simp only [List.getElem_toArray, List.getElem_cons_succ, List.getElem_cons_zero])
  go_simp
  refine (Clone_s (RowA.rd (RowA.keep0 H2.out HM1.out)) hl2).mono ?_
  rintro e W2 ⟨b2, m2, d2, rfl, hr2, hm2⟩
  have HR2 := Lib.hid hr2.rt
  have HR12 := Lib.hid (HR1.out.keep0 hm2)
  have HM2 := Lib.hid (HM1.out.trans hm2 fun _ f => f.elim)
  have HA2 := Lib.hid (HA1.out.keep hm2 fun f => f)
  have HB2 := Lib.hid (HB1.out.keep hm2 fun f => f)
  refine hK _ _ ⟨hm2.cell (fun f => f) hS1.1, hm2.cell (fun f => f) hS1.2⟩ ?_
  clear hK K hr2 hm2 hS1
  try simp only [List.getElem_toArray, List.getElem_cons_succ, List.getElem_cons_zero, Act.put, List.setIfInBounds_toArray, List.set_cons_zero, List.set_cons_succ]
  repeat ((first | refine plan_skip rfl rfl ?_ | refine plan_pass2 rfl rfl ?_ | refine plan_pass3 rfl rfl ?_ | (refine plan_take (v := ?_) rfl rfl ?_ ?_; rotate_left; focus (intro w0; go_simp; try with_reducible rfl))); simp only [List.getElem_toArray, List.getElem_cons_succ, List.getElem_cons_zero, Act.put, List.setIfInBounds_toArray, List.set_cons_zero, List.set_cons_succ])
  (refine plan_end rfl rfl rfl fun K hK => ?_; (try simp only [List.getElem_toArray, List.getElem_cons_succ, List.getElem_cons_zero]))
  refine wp_store_blk1 24 _ _ rfl pa 1 26 _ (.slice b1 m1 d1) rfl rfl HA2.out (by simp) slASz rfl ?_
  intro W3 HA3 HM3
  have HB3 := Lib.hid (HB2.out.keep HM3.out fun e => by omega)
  have HR13 := Lib.hid (HR12.out.keepT HM3.out (HA2.out.notA (by decide)))
  have HR23 := Lib.hid (HR2.out.keepT HM3.out (HA2.out.notA (by decide)))
  have HMM3 : Hid (Mod (fun _ => False) w W3) := Lib.hid (HM2.out.trans HM3.out fun k hk => .inr (by have := HPA.out; omega))
  refine hK _ _ ?_
  clear hK K
  try simp only [List.getElem_toArray, List.getElem_cons_succ, List.getElem_cons_zero, Act.put, List.setIfInBounds_toArray, List.set_cons_zero, List.set_cons_succ]
  repeat ((first | refine plan_skip rfl rfl ?_ | refine plan_pass2 rfl rfl ?_ | refine plan_pass3 rfl rfl ?_ | (refine plan_take (v := ?_) rfl rfl ?_ ?_; rotate_left; focus (intro w0; go_simp; try with_reducible rfl))); simp only [List.getElem_toArray, List.getElem_cons_succ, List.getElem_cons_zero, Act.put, List.setIfInBounds_toArray, List.set_cons_zero, List.set_cons_succ])
  (refine plan_end rfl rfl rfl fun K hK => ?_; (try simp only [List.getElem_toArray, List.getElem_cons_succ, List.getElem_cons_zero]))
  refine wp_store_blk1 24 _ _ rfl pa 2 26 _ (.slice b2 m2 d2) rfl rfl HA3.out (by simp) slASz rfl ?_
  intro W4 HA4 HM4
  have HB4 := Lib.hid (HB3.out.keep HM4.out fun e => by omega)
  have HR14 := Lib.hid (HR13.out.keepT HM4.out (HA3.out.notA (by decide)))
  have HR24 := Lib.hid (HR23.out.keepT HM4.out (HA3.out.notA (by decide)))
  have HMM4 : Hid (Mod (fun _ => False) w W4) := Lib.hid (HMM3.out.trans HM4.out fun k hk => .inr (by have := HPA.out; omega))
  have HA5 : Hid (Blk W4 pa 26 [.bool ex, .slice b1 m1 d1, .slice b2 m2 d2]) := Lib.hid HA4.out
  refine hK _ _ ?_
  clear hK K
  try simp only [List.getElem_toArray, List.getElem_cons_succ, List.getElem_cons_zero, Act.put, List.setIfInBounds_toArray, List.set_cons_zero, List.set_cons_succ]
  refine plan_nil ?_
  go_wp2_with (first | (refine wpList_load_blk rfl _ _ rfl pa 0 rfl 26 _ [.bool ex, .slice b1 m1 d1, .slice b2 m2 d2] _ HA5.out rfl Tryz.underlying26 rfl stSz ?_) | (refine wpList_store_blk rfl _ _ _ rfl (pa + 1) 0 26 _ [.bool ex, .slice b1 m1 d1, .slice b2 m2 d2] rfl rfl HB4.out (by simp) stSz (by simp [Value.oneCell']) ?_; intro W5 HB5 HM5))
  refine bodyPost_ret (results_blk rfl _ (pa + 1) 26 [.bool ex, .slice b1 m1 d1, .slice b2 m2 d2] rfl (splice_all HB5.out rfl) Tryz.underlying26 rfl stSz) rfl ?_
  refine ⟨b1, m1, d1, b2, m2, d2, rfl, HR14.out.keepT HM5.out (HB4.out.notA (by decide)), HR24.out.keepT HM5.out (HB4.out.notA (by decide)), HMM4.out.trans HM5.out fun k hk => .inr ?_⟩
  have := HPA.out
  omega
omit h2 hl2 in
set_option maxRecDepth 100000 in
theorem Turn_s : Calls Tryz.prog 85 #[.agg #[.bool ex, .slice a1 n1 c1, .slice a2 n2 c2]] w (RetS w false on []) := by
  have H1 := Lib.hid h1
  clear h1
  have hc : ((w.alloc (.cells #[.bool ex, .slice a1 n1 c1, .slice a2 n2 c2] 26 (0, 0))).alloc (.cells #[.bool false, .slice none 0 0, .slice none 0 0] 26 (0, 0))).cell? ⟨w.heap.size, 1, none⟩ = some (.slice a1 n1 c1) := ((Blk.new w 26 [.bool ex, .slice a1 n1 c1, .slice a2 n2 c2]).alloc _).cell rfl
  have HM : Hid (Mod (fun _ => False) w ((w.alloc (.cells #[.bool ex, .slice a1 n1 c1, .slice a2 n2 c2] 26 (0, 0))).alloc (.cells #[.bool false, .slice none 0 0, .slice none 0 0] 26 (0, 0)))) := Lib.hid (((Mod.refl _ _).alloc _).alloc _)
  have HB : Hid (Blk ((w.alloc (.cells #[.bool ex, .slice a1 n1 c1, .slice a2 n2 c2] 26 (0, 0))).alloc (.cells #[.bool false, .slice none 0 0, .slice none 0 0] 26 (0, 0))) (w.heap.size + 1) 26 [.bool false, .slice none 0 0, .slice none 0 0]) := Lib.hid (by
    have := Blk.new (w.alloc (.cells #[.bool ex, .slice a1 n1 c1, .slice a2 n2 c2] 26 (0, 0))) 26 [.bool false, .slice none 0 0, .slice none 0 0]
    rwa [show (w.alloc (.cells #[.bool ex, .slice a1 n1 c1, .slice a2 n2 c2] 26 (0, 0))).heap.size = w.heap.size + 1 by simp] at this)
  go_enter Tryz.func85, Tryz.ntmps85
  go_wp2_with (first | (go_at_call 90; refine (Clone_s (RowA.rd (RowA.keep0 H1.out HM.out)) hl1).mono ?_; rintro e W1 ⟨b1, m1, d1, rfl, hr1, hm1⟩; have HR1 := Lib.hid hr1.rt; have HM1 := Lib.hid (HM.out.trans hm1 fun _ f => f.elim); have HB1 := Lib.hid (HB.out.keep hm1 fun f => f); clear hr1 hm1) | (refine wpList_store_blk rfl _ _ _ rfl (w.heap.size + 1) 0 26 _ [.bool false, .slice b1 m1 d1, .slice none 0 0] rfl rfl HB1.out (by simp) stSz (by simp [Value.oneCell']) ?_; intro W5 HB5 HM5))
  refine bodyPost_ret (results_blk rfl _ (w.heap.size + 1) 26 [.bool false, .slice b1 m1 d1, .slice none 0 0] rfl (splice_all HB5.out rfl) Tryz.underlying26 rfl stSz) rfl ?_
  exact ⟨b1, m1, d1, none, 0, 0, rfl, HR1.out.keepT HM5.out (HB1.out.notA (by decide)), RowA.nil _ _, HM1.out.trans HM5.out fun k hk => .inr (by omega)⟩
end
end Go.Proofs.YtcccdlmngddalaaGreat
