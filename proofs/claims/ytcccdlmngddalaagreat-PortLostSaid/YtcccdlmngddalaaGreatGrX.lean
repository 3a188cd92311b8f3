/- srcs.Of; own, Turn of states: contracts. -/
import Derived.Test.YtcccdlmngddalaaGreatGrB
import Derived.Test.YtcccdlmngddalaaGreatRowK
import Derived.Shelf.Abstract
import Derived.Test.YtcccdlmngddalaaGreatGrF
set_option linter.unusedVariables false
set_option linter.unusedSimpArgs false
namespace Go.Proofs.YtcccdlmngddalaaGreat
open Go.RowKit Go.Sort
theorem slASz : (Tryz.prog.info? 24).map (·.size) = some 1 := by kernel_rfl
structure OutB (w : World) (base pb : Nat) (v : Value) (out : List Ad) : Prop where
  ge : base ≤ pb
  blk : Blk w pb 24 [v]
  row : RowA w (fun k => base ≤ k) v out
theorem OutB.keep0 {w w' : World} {base pb : Nat} {v : Value} {out : List Ad} (h : OutB w base pb v out) (hm : Mod (fun _ => False) w w') : OutB w' base pb v out := ⟨h.ge, h.blk.keep hm fun f => f, h.row.keep0 hm⟩
set_option maxRecDepth 100000 in
set_option maxHeartbeats 1000000 in
theorem take_any {w : World} {base pb : Nat} {v : Value} {out : List Ad} (h : OutB w base pb v out) (hb : base ≤ w.heap.size) (hn : out.length ≤ 10000) (x : Ad) (is : Bool) :
    Calls Tryz.prog 148 #[.agg x.c.toArray, .bool is, .pointer (some ⟨pb, 0, none⟩)] w fun e w' => e = .returned (.tuple #[]) ∧ (∃ v', OutB w' base pb v' (out ++ ift is x)) ∧ Mod (fun k => base ≤ k) w w' := by
  have hpl : pb < w.heap.size := h.blk.lt
  cases is with
  | false =>
    have HO : Hid (OutB (w.alloc (.cells x.c.toArray 36 (0, 0))) base pb v (out ++ ift false x)) := Lib.hid (by
      have := h.keep0 ((Mod.refl (fun _ => False) w).alloc (.cells x.c.toArray 36 (0, 0)))
      simpa [ift] using this)
    clear h
    go_enter Tryz.func148, Tryz.ntmps148
    go_wp2
    go_end0
    exact ⟨rfl, ⟨v, HO.out⟩, (Mod.refl _ _).alloc _⟩
  | true =>
    have HX := Lib.hid (Blk.new w 36 x.c)
    have HXS := Lib.hid x.c_sz
    have HXL := Lib.hid x.c_len
    have HX1 := Lib.hid x.c_one
    have H0 : Hid (OutB (w.alloc (.cells x.c.toArray 36 (0, 0))) base pb v out) := Lib.hid (h.keep0 ((Mod.refl (fun _ => False) w).alloc _))
    have c0 : (w.alloc (.cells x.c.toArray 36 (0, 0))).cell? ⟨pb, 0, none⟩ = some v := H0.out.blk.cell rfl
    clear h
    go_enter Tryz.func148, Tryz.ntmps148
    go_wp2_with (first
      | (refine wpList_load_blk rfl _ _ rfl w.heap.size 0 rfl 36 x.c x.c _ HX.out (List.take_of_length_le (Nat.le_refl _)) Tryz.underlying36 rfl HXS.out ?_)
      | (refine wpList_buildSlice1 Tryz.elA rfl _ rfl x.c rfl HXL.out (by decide) (by decide) ?_)
      | (at_builtin; refine wpList_append_one Tryz.elA rfl (.tmp 6) (.tmp 8) rfl x.c.toArray (fun k => base ≤ k) v out.length (cellsA out) (H0.out.row.alloc _) _ (allocNewAt (by simp)) rfl rfl (by simpa using HXL.out) (by simpa using HX1.out) (by omega) (by unfold maxLen; omega) ?_; intro v' w' h2 h3; have H2 := Lib.hid h2; have H3 := Lib.hid h3; clear h2 h3; have HB := Lib.hid ((H0.out.blk.alloc _).keep H3.out fun e => H0.out.row.ne H0.out.blk (by decide) e))
      | (refine wpList_store_blk1 rfl _ _ _ rfl pb 0 24 [v] v' rfl rfl HB.out (by simp) slASz (by obtain ⟨_, _, e, _⟩ := H2.out.form; rw [e]; rfl) ?_; intro w5 HB5 HM5))
    go_end0
    have hm : Mod (fun k => base ≤ k) w w' := (((Mod.refl (fun k => base ≤ k) w).alloc _).alloc _).trans H3.out fun k hk => .inl (H0.out.row.2 k hk)
    have h2 : RowA w' (fun k => base ≤ k) v' (out ++ [x]) := by
      have h2 := H2.out
      unfold RowA
      rw [cellsA_app, show cellsA [x] = x.c by simp [cellsA], List.length_append]
      exact h2.mono fun k hk => hk.elim (fun h => h) fun h => by simp at h; omega
    exact ⟨rfl, ⟨v', H0.out.ge, HB5.out, by
      exact h2.keepT HM5.out (HB.out.notA (by decide))⟩, hm.trans HM5.out fun k hk => .inl (by have := H0.out.ge; omega)⟩
theorem RdA.lo {w : World} {v : Value} {l : List Ad} (h : RdA w v l) (k : Nat) (hk : k ≤ l.length) : RdA w (loV 17 v k) (l.drop k) := by
  unfold RdA
  rw [List.length_drop, ← cellsA_drop]
  exact Reads.lo h k 17 hk
def slen : Value → Nat
  | .slice _ n _ => n
  | _ => 0
def tk (p : Bool) (l : List Ad) : List Ad := if p then l else []
theorem tk_nil (p : Bool) : tk p [] = [] := by unfold tk; cases p <;> rfl
theorem tk_snoc (p : Bool) (l : List Ad) (x : Ad) : tk p l ++ ift p x = tk p (l ++ [x]) := by unfold tk ift; cases p <;> simp
theorem mrg_end (f m s : Bool) (al bl : List Ad) (h : al = [] ∨ bl = []) : mrg f m s al bl = tk f al ++ tk s bl := by
  rcases h with rfl | rfl
  · rw [mrg, tk_nil]; rfl
  · cases al with
    | nil => rw [mrg, tk_nil, tk_nil]; cases s <;> rfl
    | cons x al =>
      rw [mrg, tk_nil, List.append_nil]
      · rfl
      · simp
set_option maxRecDepth 100000 in
set_option maxHeartbeats 4000000 in
theorem walk_any (va vb : Value) (la lb : List Ad) (f m s : Bool) (w : World) (ha : RdA w va la) (hb : RdA w vb lb) (hla : la.length ≤ 2000) (hlb : lb.length ≤ 2000) :
    Calls Tryz.prog 131 #[va, vb, .func (.func 81) #[] #[], .bool f, .bool m, .bool s] w fun e w' => ∃ v, e = .returned v ∧ RowA w' (fun k => w.heap.size ≤ k) v (mrg f m s la lb) ∧ Mod (fun _ => False) w w' := by
  have HA := Lib.hid ha
  have HB := Lib.hid hb
  have HLA := Lib.hid hla
  have HLB := Lib.hid hlb
  have HO0 : Hid (OutB (w.alloc (.cells #[.slice none 0 0] 24 (0, 0))) w.heap.size w.heap.size (.slice none 0 0) []) := Lib.hid ⟨Nat.le_refl _, allocNew w _, RowA.nil _ _⟩
  have HM0 : Hid (Mod (fun _ => False) w (w.alloc (.cells #[.slice none 0 0] 24 (0, 0)))) := Lib.hid ((Mod.refl _ _).alloc _)
  obtain ⟨R, hR⟩ : ∃ R, R = mrg f m s la lb := ⟨_, rfl⟩
  have HRL : Hid (R.length ≤ 4000) := Lib.hid (by rw [hR]; have := (mrg_len f m s _ la lb (Nat.le_refl _)).1; omega)
  rw [← hR]
  have HR := Lib.hid hR
  clear ha hb hla hlb hR
  go_enter Tryz.func131, Tryz.ntmps131
  go_wp2_with fail
  go_loopw [0, 1] (fun a0 a1 wr => ∃ (al bl : List Ad) (v : Value) (out : List Ad), RdA w a0 al ∧ RdA w a1 bl ∧ OutB wr w.heap.size w.heap.size v out ∧ Mod (fun _ => False) w wr ∧ out ++ mrg f m s al bl = R ∧ al.length ≤ 2000 ∧ bl.length ≤ 2000) (fun a0 a1 _ => slen a0 + slen a1)
  case atStart => exact ⟨la, lb, _, [], HA.out, HB.out, HO0.out, HM0.out, by rw [HR.out]; rfl, HLA.out, HLB.out⟩
  case round =>
    clear HO0 HM0
    obtain ⟨al, bl, v, out, ha, hb, ho, hm, he, hal, hbl⟩ := hrel
    have HRAX := Lib.hid hal
    have HRBX := Lib.hid hbl
    clear hal hbl
    obtain ⟨na, hna⟩ : ∃ na, na = al.length := ⟨_, rfl⟩
    obtain ⟨nb, hnb⟩ : ∃ nb, nb = bl.length := ⟨_, rfl⟩
    have HRA := Lib.hid ha
    have HRB := Lib.hid hb
    obtain ⟨ada, ca, rfl, hac, hacm, k5⟩ := ha
    obtain ⟨adb, cb, rfl, hbc, hbcm, k6⟩ := hb
    clear k5 k6
    rw [← hna] at HRA hac ⊢
    rw [← hnb] at HRB hbc ⊢
    have HNA := Lib.hid hna
    have HNB := Lib.hid hnb
    have HO := Lib.hid ho
    have HM := Lib.hid hm
    have HE := Lib.hid he
    have HOL : Hid (out.length ≤ 4000) := Lib.hid (by have := congrArg List.length he; rw [List.length_append] at this; have := HRL.out; omega)
    unfold maxLen at hacm hbcm
    clear hna hnb ho hm he
    rcases Nat.eq_zero_or_pos na with h1 | h1
    case' inl => have HX : Hid (al = [] ∨ bl = []) := Lib.hid (.inl (List.eq_nil_of_length_eq_zero (by rw [← HNA.out]; exact h1)))
    case' inr => rcases Nat.eq_zero_or_pos nb with h2 | h2
    case' inr.inl => have HX : Hid (al = [] ∨ bl = []) := Lib.hid (.inr (List.eq_nil_of_length_eq_zero (by rw [← HNB.out]; exact h2)))
    case inr.inr =>
      obtain ⟨x, al', rfl⟩ : ∃ x al', al = x :: al' := by
        cases al with
        | nil => have := HNA.out; simp at this; omega
        | cons x al' => exact ⟨x, al', rfl⟩
      obtain ⟨y, bl', rfl⟩ : ∃ y bl', bl = y :: bl' := by
        cases bl with
        | nil => have := HNB.out; simp at this; omega
        | cons y bl' => exact ⟨y, bl', rfl⟩
      obtain ⟨ga, oa, cap1, e1, k1, k2, hxa⟩ := HRA.out.at (j := 0) (by simp)
      obtain ⟨gb, ob, cap2, e2, k3, k4, hxb⟩ := HRB.out.at (j := 0) (by simp)
      clear k1 k2 k3 k4
      injection e1 with e1 e1a e1b
      injection e2 with e2 e2a e2b
      clear e1a e1b e2a e2b
      subst e1 e2
      have hx := hxa 0 x rfl
      have hy := hxb 0 y rfl
      rw [Nat.zero_mul, Nat.add_zero] at hx hy
      have HX := Lib.hid (keepRange HM.out hx)
      have HY := Lib.hid (keepRange HM.out hy)
      have HXS := Lib.hid x.c_sz
      have HYS := Lib.hid y.c_sz
      have HTA := Lib.hid (HRA.out.lo 1 (by simp))
      have HTB := Lib.hid (HRB.out.lo 1 (by simp))
      have HNA1 : Hid (na = al'.length + 1) := Lib.hid (by rw [HNA.out]; rfl)
      have HNB1 : Hid (nb = bl'.length + 1) := Lib.hid (by rw [HNB.out]; rfl)
      clear hxa hxb hx hy
      have hS : wr.drew.rangeAt ga oa x.c ∧ wr.drew.rangeAt gb ob y.c := ⟨HX.out, HY.out⟩
      go_wp2_with fail
      refine wp_region_plan [7] [(0, 0), (1, 0), (2, 0), (3, 1), (4, 0), (5, 0), (6, 1), (7, 3), (8, 0)] (fun w' : World => w'.rangeAt ga oa x.c ∧ w'.rangeAt gb ob y.c) (by kernel_rfl) (by kernel_rfl) (fun d v c a w h => by first | (cases d <;> exact h) | exact HP d v c a w h) ?_
      repeat ((first | refine plan_skip rfl rfl ?_ | refine plan_pass2 rfl rfl ?_ | refine plan_pass3 rfl rfl ?_ | (refine plan_take (v := ?_) rfl rfl ?_ ?_; rotate_left; focus (intro w0; go_simp; try with_reducible rfl))); simp only [nA, nB, nC, Act.put, nD, nE, nF])
      (refine plan_held (v := .agg x.c.toArray) rfl rfl hS (fun w0 h0 => exec_load_mid _ _ rfl ga oa rfl x.c _ w0 h0.1 Tryz.underlying36 rfl HXS.out) ?_; try simp only [nA, nB, nC, Act.put, nD, nE, nF])
      repeat ((first | refine plan_skip rfl rfl ?_ | refine plan_pass2 rfl rfl ?_ | refine plan_pass3 rfl rfl ?_ | (refine plan_take (v := ?_) rfl rfl ?_ ?_; rotate_left; focus (intro w0; go_simp; try with_reducible rfl))); simp only [nA, nB, nC, Act.put, nD, nE, nF])
      (refine plan_held (v := .agg y.c.toArray) rfl rfl hS (fun w0 h0 => exec_load_mid _ _ rfl gb ob rfl y.c _ w0 h0.2 Tryz.underlying36 rfl HYS.out) ?_; try simp only [nA, nB, nC, Act.put, nD, nE, nF])
      repeat ((first | refine plan_skip rfl rfl ?_ | refine plan_pass2 rfl rfl ?_ | refine plan_pass3 rfl rfl ?_ | (refine plan_take (v := ?_) rfl rfl ?_ ?_; rotate_left; focus (intro w0; go_simp; try with_reducible rfl))); simp only [nA, nB, nC, Act.put, nD, nE, nF])
      (refine plan_end rfl rfl rfl fun K hK => ?_; (try simp only [nA, nB, nC]))
      go_simp
      refine (Cmp_ad x y _).mono ?_; rintro e W1 ⟨rfl, hm1⟩
      have hm1' : Mod (fun _ => False) wr W1 := ((Mod.refl _ wr).drew).trans hm1 fun _ f => f.elim
      have HX1 := Lib.hid (keepRange hm1' HX.out)
      have HY1 := Lib.hid (keepRange hm1' HY.out)
      have HO1 := Lib.hid (HO.out.keep0 hm1')
      have HM1 := Lib.hid (HM.out.trans hm1' fun _ f => f.elim)
      have HB1 : Hid (w.heap.size ≤ W1.heap.size) := Lib.hid HM1.out.size
      obtain ⟨c, hc⟩ : ∃ c, c = x.cmp y := ⟨_, rfl⟩
      rw [← hc]
      have HC := Lib.hid hc
      refine hK _ _ ?_
      clear hK K hm1 hm1' hS hc HX HY HO HM
      try simp only [nA, nB, nC, Act.put, nD, nE, nF]
      repeat ((first | refine plan_skip rfl rfl ?_ | refine plan_pass2 rfl rfl ?_ | refine plan_pass3 rfl rfl ?_ | (refine plan_take (v := ?_) rfl rfl ?_ ?_; rotate_left; focus (intro w0; go_simp; try with_reducible rfl))); simp only [nA, nB, nC, Act.put, nD, nE, nF])
      refine plan_nil ?_
      have HLX : ∀ w0 : World, True := fun _ => trivial
      rcases Int.lt_trichotomy c 0 with h3 | h3 | h3
      · have HEQ : Hid (mrg f m s (x :: al') (y :: bl') = ift f x ++ mrg f m s al' (y :: bl')) := Lib.hid (by rw [mrg, if_pos (by rw [← HC.out]; exact h3)])
        go_wp2_with (first
          | (refine wpList_load_midG rfl _ _ rfl ga oa rfl x.c _ HX1.out Tryz.underlying36 rfl HXS.out ?_)
          | (go_at_call 148; refine (take_any HO1.out HB1.out (by have := HOL.out; omega) x f).mono ?_; rintro e W2 ⟨rfl, ⟨v2, ho2⟩, hm2⟩; have HO2 := Lib.hid ho2; have HM2 := Lib.hid hm2; clear ho2 hm2)
          | (refine wpList_val rfl (loV 17 (.slice (some ⟨ga, oa, none⟩) na ca) 1) (exec_slice_lo Tryz.elA rfl HRA.out rfl 1 rfl (by omega) _) ?_))
        go_roundw
        case rel => exact ⟨al', y :: bl', v2, _, HTA.out, HRB.out, HO2.out, HM1.out.trans HM2.out fun k hk => .inr hk, by rw [List.append_assoc, ← HEQ.out]; exact HE.out, by have := HRAX.out; simp at this ⊢; omega, by have := HRBX.out; simp at this ⊢; omega⟩
        case measure => simp [slen, loV]; omega
      · have HEQ : Hid (mrg f m s (x :: al') (y :: bl') = ift m x ++ mrg f m s al' bl') := Lib.hid (by rw [mrg, if_neg (by rw [← HC.out]; omega), if_neg (by rw [← HC.out]; omega)])
        subst h3
        go_wp2_with (first
          | (refine wpList_load_midG rfl _ _ rfl ga oa rfl x.c _ HX1.out Tryz.underlying36 rfl HXS.out ?_)
          | (go_at_call 148; refine (take_any HO1.out HB1.out (by have := HOL.out; omega) x m).mono ?_; rintro e W2 ⟨rfl, ⟨v2, ho2⟩, hm2⟩; have HO2 := Lib.hid ho2; have HM2 := Lib.hid hm2; clear ho2 hm2))
        refine wp_region_plan [] [(0, 0), (1, 0), (2, 0), (3, 0), (4, 0), (5, 0)] (fun _ : World => True) (by kernel_rfl) (by kernel_rfl) (fun d v c a w h => by first | (cases d <;> exact h) | exact HP d v c a w h) ?_
        repeat ((first | refine plan_skip rfl rfl ?_ | refine plan_pass2 rfl rfl ?_ | refine plan_pass3 rfl rfl ?_ | (refine plan_take (v := ?_) rfl rfl ?_ ?_; rotate_left; focus (intro w0; go_simp; try with_reducible rfl))); simp only [nA, nB, nC, Act.put, nD, nE, nF])
        refine plan_take (v := loV 17 (.slice (some ⟨ga, oa, none⟩) na ca) 1) rfl rfl (fun w0 => exec_slice_lo Tryz.elA rfl HRA.out rfl 1 rfl (by simp) w0) ?_
        try simp only [nA, nB, nC, Act.put, nD, nE, nF]
        repeat ((first | refine plan_skip rfl rfl ?_ | refine plan_pass2 rfl rfl ?_ | refine plan_pass3 rfl rfl ?_ | (refine plan_take (v := ?_) rfl rfl ?_ ?_; rotate_left; focus (intro w0; go_simp; try with_reducible rfl))); simp only [nA, nB, nC, Act.put, nD, nE, nF])
        refine plan_take (v := loV 17 (.slice (some ⟨gb, ob, none⟩) nb cb) 1) rfl rfl (fun w0 => exec_slice_lo Tryz.elA rfl HRB.out rfl 1 rfl (by simp) w0) ?_
        try simp only [nA, nB, nC, Act.put, nD, nE, nF]
        repeat ((first | refine plan_skip rfl rfl ?_ | refine plan_pass2 rfl rfl ?_ | refine plan_pass3 rfl rfl ?_ | (refine plan_take (v := ?_) rfl rfl ?_ ?_; rotate_left; focus (intro w0; go_simp; try with_reducible rfl))); simp only [nA, nB, nC, Act.put, nD, nE, nF])
        refine plan_nil ?_
        go_wp2
        go_roundw
        case rel => exact ⟨al', bl', v2, _, HTA.out, HTB.out, ⟨HO2.out.ge, HO2.out.blk, HO2.out.row⟩, (HM1.out.trans HM2.out fun k hk => .inr hk).drew, by rw [List.append_assoc, ← HEQ.out]; exact HE.out, by have := HRAX.out; simp at this ⊢; omega, by have := HRBX.out; simp at this ⊢; omega⟩
        case measure => simp [slen, loV]; omega
      · have HEQ : Hid (mrg f m s (x :: al') (y :: bl') = ift s y ++ mrg f m s (x :: al') bl') := Lib.hid (by rw [mrg, if_neg (by rw [← HC.out]; omega), if_pos (by rw [← HC.out]; exact h3)])
        go_wp2_with (first
          | (refine wpList_load_midG rfl _ _ rfl gb ob rfl y.c _ HY1.out Tryz.underlying36 rfl HYS.out ?_)
          | (go_at_call 148; refine (take_any HO1.out HB1.out (by have := HOL.out; omega) y s).mono ?_; rintro e W2 ⟨rfl, ⟨v2, ho2⟩, hm2⟩; have HO2 := Lib.hid ho2; have HM2 := Lib.hid hm2; clear ho2 hm2)
          | (refine wpList_val rfl (loV 17 (.slice (some ⟨gb, ob, none⟩) nb cb) 1) (exec_slice_lo Tryz.elA rfl HRB.out rfl 1 rfl (by omega) _) ?_))
        go_roundw
        case rel => exact ⟨x :: al', bl', v2, _, HRA.out, HTB.out, HO2.out, HM1.out.trans HM2.out fun k hk => .inr hk, by rw [List.append_assoc, ← HEQ.out]; exact HE.out, by have := HRAX.out; simp at this ⊢; omega, by have := HRBX.out; simp at this ⊢; omega⟩
        case measure => simp [slen, loV]; omega
    case inl =>
      have HE1 : Hid (out ++ (tk f al ++ tk s bl) = R) := Lib.hid (by rw [← mrg_end f m s al bl HX.out]; exact HE.out)
      have HRBL : Hid (bl.length ≤ 2000) := HRBX
      clear HX HE
      obtain rfl : al = [] := List.eq_nil_of_length_eq_zero (by rw [← HNA.out]; exact h1)
      subst h1
      go_wp2_with fail
      go_loopw [71] (fun iv wq => iv = .int .i64 0 ∧ wq = wr) (fun _ _ => 0)
      case atStart => exact ⟨rfl, rfl⟩
      case round =>
        obtain ⟨rfl, rfl⟩ := hrel
        go_wp2_with fail
        go_loopw [82] (fun iv wk => ∃ (j : Nat) (vk : Value) (outk : List Ad), j ≤ nb ∧ iv = .int .i64 (j : Int) ∧ OutB wk w.heap.size w.heap.size vk outk ∧ Mod (fun _ => False) w wk ∧ outk = out ++ tk s (bl.take j)) (fun iv _ => nb - (intOf iv).toNat)
        case atStart => exact ⟨0, v, out, Nat.zero_le _, rfl, HO.out, HM.out, by rw [List.take_zero, tk_nil, List.append_nil]⟩
        case round =>
          clear HO HM
          obtain ⟨j, vk, outk, hj, rfl, ho, hm, he⟩ := hrel
          have HOK := Lib.hid ho
          have HMK := Lib.hid hm
          have HEK := Lib.hid he
          clear ho hm he
          by_cases hlt : j < nb
          · obtain ⟨x, hx⟩ : ∃ x, bl[j]? = some x := ⟨_, List.getElem?_eq_getElem (by rw [← HNB.out]; exact hlt)⟩
            obtain ⟨g, o, cap1, e1, k1, k2, hxa⟩ := HRB.out.at (j := j) (by rw [← HNB.out]; exact hlt)
            injection e1 with e1 e1a e1b
            subst e1
            have HXR := Lib.hid (keepRange HMK.out (hxa j x hx))
            have HXG := Lib.hid hx
            have HXS := Lib.hid x.c_sz
            have HX1 := Lib.hid x.c_one
            have HNB0 := Lib.hid (Blk.new wr 36 (adrC false z16))
            have HFIT : Hid (0 + x.c.length ≤ (adrC false z16).length) := Lib.hid (by rw [x.c_len]; decide)
            have HOL1 : Hid (outk.length ≤ 10000) := Lib.hid (by rw [HEK.out, List.length_append]; have h1 : (tk s (bl.take j)).length ≤ bl.length := (by unfold tk; split <;> simp <;> omega); have h2 := HOL.out; have h3 := HRBL.out; omega)
            clear e1a e1b k1 k2 hxa hx
            go_wp2_with (first
              | (refine wpList_load_midG rfl _ _ rfl g (o + j * 17) rfl x.c _ HXR.out Tryz.underlying36 rfl HXS.out ?_)
              | (refine wpList_store_blk rfl _ _ _ rfl wr.heap.size 0 36 (adrC false z16) x.c rfl rfl HNB0.out HFIT.out HXS.out HX1.out ?_; intro w3 HB3 HM3; have HB := Lib.hid (splice_all HB3.out (by rw [x.c_len]; rfl)); have HM4 : Hid (Mod (fun _ => False) wr w3) := Lib.hid (((Mod.refl _ _).alloc _).trans HM3.out fun x hx => .inr (by omega)); have HO3 := Lib.hid (HOK.out.keep0 HM4.out); have HS3 : Hid (w.heap.size ≤ w3.heap.size) := Lib.hid (Nat.le_trans HMK.out.size HM4.out.size))
              | (refine wpList_load_blk rfl _ _ rfl wr.heap.size 0 rfl 36 x.c x.c _ HB.out (List.take_of_length_le (Nat.le_refl _)) Tryz.underlying36 rfl HXS.out ?_)
              | (go_at_call 148; refine (take_any HO3.out HS3.out HOL1.out x s).mono ?_; rintro e W2 ⟨rfl, ⟨v2, ho2⟩, hm2⟩; have HO2 := Lib.hid ho2; have HM2 := Lib.hid hm2; clear ho2 hm2))
            go_roundw
            case rel => exact ⟨j + 1, v2, _, by omega, by go_num, HO2.out, (HMK.out.trans HM4.out fun k hk => .inl hk).trans HM2.out fun k hk => .inr hk, by rw [HEK.out, List.append_assoc, tk_snoc]; congr 2; rw [List.take_add_one, HXG.out]; rfl⟩
            case measure => simp [intOf]; omega
          · have hjn : j = nb := by omega
            subst hjn
            have HET : Hid (outk = out ++ tk s bl) := Lib.hid (by rw [HEK.out, List.take_of_length_le (by have := HNB.out; omega)])
            have c0 : wr.cell? ⟨w.heap.size, 0, none⟩ = some vk := HOK.out.blk.cell rfl
            go_wp2
            go_ret
            refine ⟨vk, rfl, ?_, HMK.out⟩
            have := HOK.out.row
            rw [HET.out] at this
            rw [← HE1.out]
            simpa [tk_nil] using this
    case inr.inl =>
      have HE1 : Hid (out ++ (tk f al ++ tk s bl) = R) := Lib.hid (by rw [← mrg_end f m s al bl HX.out]; exact HE.out)
      have HRAL : Hid (al.length ≤ 2000) := HRAX
      clear HX HE
      obtain rfl : bl = [] := List.eq_nil_of_length_eq_zero (by rw [← HNB.out]; exact h2)
      subst h2
      go_wp2_with fail
      go_loopw [71] (fun iv wk => ∃ (j : Nat) (vk : Value) (outk : List Ad), j ≤ na ∧ iv = .int .i64 (j : Int) ∧ OutB wk w.heap.size w.heap.size vk outk ∧ Mod (fun _ => False) w wk ∧ outk = out ++ tk f (al.take j)) (fun iv _ => na - (intOf iv).toNat)
      case atStart => exact ⟨0, v, out, Nat.zero_le _, rfl, HO.out, HM.out, by rw [List.take_zero, tk_nil, List.append_nil]⟩
      case round =>
        clear HO HM
        obtain ⟨j, vk, outk, hj, rfl, ho, hm, he⟩ := hrel
        have HOK := Lib.hid ho
        have HMK := Lib.hid hm
        have HEK := Lib.hid he
        clear ho hm he
        by_cases hlt : j < na
        · obtain ⟨x, hx⟩ : ∃ x, al[j]? = some x := ⟨_, List.getElem?_eq_getElem (by rw [← HNA.out]; exact hlt)⟩
          obtain ⟨g, o, cap1, e1, k1, k2, hxa⟩ := HRA.out.at (j := j) (by rw [← HNA.out]; exact hlt)
          injection e1 with e1 e1a e1b
          subst e1
          have HXR := Lib.hid (keepRange HMK.out (hxa j x hx))
          have HXG := Lib.hid hx
          have HXS := Lib.hid x.c_sz
          have HX1 := Lib.hid x.c_one
          have HNB0 := Lib.hid (Blk.new wr 36 (adrC false z16))
          have HFIT : Hid (0 + x.c.length ≤ (adrC false z16).length) := Lib.hid (by rw [x.c_len]; decide)
          have HOL1 : Hid (outk.length ≤ 10000) := Lib.hid (by rw [HEK.out, List.length_append]; have h1 : (tk f (al.take j)).length ≤ al.length := (by unfold tk; split <;> simp <;> omega); have h2 := HOL.out; have h3 := HRAL.out; omega)
          clear e1a e1b k1 k2 hxa hx
          go_wp2_with (first
            | (refine wpList_load_midG rfl _ _ rfl g (o + j * 17) rfl x.c _ HXR.out Tryz.underlying36 rfl HXS.out ?_)
            | (refine wpList_store_blk rfl _ _ _ rfl wr.heap.size 0 36 (adrC false z16) x.c rfl rfl HNB0.out HFIT.out HXS.out HX1.out ?_; intro w3 HB3 HM3; have HB := Lib.hid (splice_all HB3.out (by rw [x.c_len]; rfl)); have HM4 : Hid (Mod (fun _ => False) wr w3) := Lib.hid (((Mod.refl _ _).alloc _).trans HM3.out fun x hx => .inr (by omega)); have HO3 := Lib.hid (HOK.out.keep0 HM4.out); have HS3 : Hid (w.heap.size ≤ w3.heap.size) := Lib.hid (Nat.le_trans HMK.out.size HM4.out.size))
            | (refine wpList_load_blk rfl _ _ rfl wr.heap.size 0 rfl 36 x.c x.c _ HB.out (List.take_of_length_le (Nat.le_refl _)) Tryz.underlying36 rfl HXS.out ?_)
            | (go_at_call 148; refine (take_any HO3.out HS3.out HOL1.out x f).mono ?_; rintro e W2 ⟨rfl, ⟨v2, ho2⟩, hm2⟩; have HO2 := Lib.hid ho2; have HM2 := Lib.hid hm2; clear ho2 hm2))
          go_roundw
          case rel => exact ⟨j + 1, v2, _, by omega, by go_num, HO2.out, (HMK.out.trans HM4.out fun k hk => .inl hk).trans HM2.out fun k hk => .inr hk, by rw [HEK.out, List.append_assoc, tk_snoc]; congr 2; rw [List.take_add_one, HXG.out]; rfl⟩
          case measure => simp [intOf]; omega
        · have hjn : j = na := by omega
          subst hjn
          have HET : Hid (outk = out ++ tk f al) := Lib.hid (by rw [HEK.out, List.take_of_length_le (by have := HNA.out; omega)])
          go_wp2_with fail
          go_loopw [82] (fun iv wq => iv = .int .i64 0 ∧ wq = wr) (fun _ _ => 0)
          case atStart => exact ⟨rfl, rfl⟩
          case round =>
            obtain ⟨rfl, rfl⟩ := hrel
            have c0 : wr.cell? ⟨w.heap.size, 0, none⟩ = some vk := HOK.out.blk.cell rfl
            go_wp2
            go_ret
            refine ⟨vk, rfl, ?_, HMK.out⟩
            have := HOK.out.row
            rw [HET.out] at this
            rw [← HE1.out]
            simpa [tk_nil] using this
def kp (ds : Nat → Bool) : Nat → List Ad → List Ad
  | _, [] => []
  | i, a :: l => (if ds i then [] else [a]) ++ kp ds (i + 1) l
theorem kp_app (ds : Nat → Bool) : ∀ (a b : List Ad) (i : Nat), kp ds i (a ++ b) = kp ds i a ++ kp ds (i + a.length) b
  | [], b, i => by simp [kp]
  | x :: a, b, i => by
    rw [List.cons_append, kp, kp, kp_app ds a b (i + 1), List.append_assoc, show i + 1 + a.length = i + (x :: a).length by simp; omega]
theorem kp_all (ds : Nat → Bool) : ∀ (l : List Ad) (i : Nat), (∀ t, t < l.length → ds (i + t) = false) → kp ds i l = l
  | [], _, _ => rfl
  | x :: l, i, h => by
    rw [kp, kp_all ds l (i + 1) fun t ht => by have := h (t + 1) (by simp; omega); rwa [show i + 1 + t = i + (t + 1) by omega], show ds i = false from h 0 (by simp)]
    rfl
theorem kp_step (ds : Nat → Bool) (l : List Ad) (j : Nat) (x : Ad) (hx : l[j]? = some x) : kp ds 0 (l.take (j + 1)) = kp ds 0 (l.take j) ++ (if ds j then [] else [x]) := by
  have hj := (List.getElem?_eq_some_iff.1 hx).1
  rw [List.take_add_one, hx, kp_app, Nat.zero_add, List.length_take, show min j l.length = j by omega]
  simp [kp]
structure Del (g : FuncId) (cb : Array Value) (l : List Ad) (ds : Nat → Bool) (J : Nat → World → Prop) (F R : Nat → Prop) : Prop where
  eg : ∀ args w, (callFunc g args).run Tryz.prog w = .ok (.enter g args) w
  call : ∀ i x W, l[i]? = some x → J i W → Calls Tryz.prog g (#[.agg x.c.toArray] ++ cb) W fun e W' => e = .returned (.bool (ds i)) ∧ J (i + 1) W' ∧ Mod F W W'
  keep : ∀ i W W', J i W → Mod R W W' → J i W'
set_option maxRecDepth 100000 in
set_option maxHeartbeats 400000 in
theorem IndexFunc_any {w : World} {f : Nat → Prop} {v : Value} {l : List Ad} {g : FuncId} {cb : Array Value} {ds : Nat → Bool} {J : Nat → World → Prop} {F R : Nat → Prop} (D : Del g cb l ds J F R) (h : RowA w f v l) (hF : ∀ k, F k → ¬ v.ownBlock = some k) (h0 : J 0 w) :
    Calls Tryz.prog 128 #[v, .func (.func g) #[] cb] w fun e w' => (∃ i : Nat, i < l.length ∧ ds i = true ∧ (∀ t, t < i → ds t = false) ∧ e = .returned (.int .i64 (i : Int)) ∧ J (i + 1) w' ∧ Mod F w w') ∨
      ((∀ t, t < l.length → ds t = false) ∧ e = .returned (.int .i64 (-1)) ∧ J l.length w' ∧ Mod F w w') := by
  have eg := D.eg
  obtain ⟨n, hn⟩ : ∃ n, n = l.length := ⟨_, rfl⟩
  obtain ⟨ad, cap, rfl, hnc, hcm, hg⟩ := Row.form h
  unfold maxLen at hcm
  rw [← hn] at hnc ⊢
  have HR : Hid (∀ wr, Mod F w wr → ∀ j x, l[j]? = some x → ∃ g0, ad = some ⟨g0, 0, none⟩ ∧ wr.rangeAt g0 (j * 17) x.c) := Lib.hid fun wr hm j x hx => by
    obtain ⟨g0, e0, _, _, hc⟩ := hg (by have := (List.getElem?_eq_some_iff.1 hx).1; omega)
    subst e0
    refine ⟨g0, rfl, fun i u hu => ?_⟩
    rw [← cellsA_get hx, List.getElem?_take] at hu
    split at hu
    · rw [List.getElem?_drop] at hu
      exact hm.cell (fun hf => hF _ hf rfl) (hc _ u hu)
    · cases hu
  have HN := Lib.hid hn
  have HJ0 := Lib.hid h0
  have HD := Lib.hid D
  clear hg hn h h0 D hF
  go_enter Tryz.func128, Tryz.ntmps128
  go_wp2_with fail
  go_loopw [8] (fun iv wr => ∃ j : Nat, j ≤ n ∧ iv = .int .i64 (j : Int) ∧ (∀ t, t < j → ds t = false) ∧ J j wr ∧ Mod F w wr) (fun iv _ => n - (intOf iv).toNat)
  case atStart => exact ⟨0, Nat.zero_le _, rfl, fun t ht => by omega, HJ0.out, Mod.refl _ _⟩
  case round =>
    obtain ⟨j, hj, rfl, hall, hJ, hm⟩ := hrel
    have HJ := Lib.hid hJ
    have HM := Lib.hid hm
    have HALL := Lib.hid hall
    clear hJ hm hall
    by_cases hlt : j < n
    · obtain ⟨x, hx⟩ : ∃ x, l[j]? = some x := ⟨_, List.getElem?_eq_getElem (by rw [← HN.out]; exact hlt)⟩
      obtain ⟨g0, e0, hr⟩ := HR.out wr HM.out j x hx
      subst e0
      have HRA := Lib.hid hr
      have HXS := Lib.hid x.c_sz
      have HC := Lib.hid (HD.out.call j x wr hx HJ.out)
      clear hx hr
      obtain ⟨b, hb⟩ : ∃ b, b = ds j := ⟨_, rfl⟩
      rw [← hb] at HC
      have HB := Lib.hid hb
      clear hb
      cases b with
      | true =>
        go_wp2_with (first
          | (refine wpList_load_midG rfl _ _ rfl g0 (j * 17) rfl x.c _ HRA.out Tryz.underlying36 rfl HXS.out ?_)
          | (go_at_fn g; refine HC.out.mono ?_; rintro e W2 ⟨rfl, hj2, hm2⟩; have HJ2 := Lib.hid hj2; have HM2 := Lib.hid hm2; clear hj2 hm2))
        go_ret
        exact .inl ⟨j, hlt, HB.out.symm, HALL.out, rfl, HJ2.out, HM.out.trans HM2.out fun k hk => .inl hk⟩
      | false =>
        go_wp2_with (first
          | (refine wpList_load_midG rfl _ _ rfl g0 (j * 17) rfl x.c _ HRA.out Tryz.underlying36 rfl HXS.out ?_)
          | (go_at_fn g; refine HC.out.mono ?_; rintro e W2 ⟨rfl, hj2, hm2⟩; have HJ2 := Lib.hid hj2; have HM2 := Lib.hid hm2; clear hj2 hm2))
        go_roundw
        case rel => exact ⟨j + 1, by omega, by go_num, fun t ht => by rcases Nat.lt_succ_iff_lt_or_eq.1 ht with h | rfl; exact HALL.out t h; exact HB.out.symm, HJ2.out, HM.out.trans HM2.out fun k hk => .inl hk⟩
        case measure => simp [intOf]; omega
    · obtain rfl : j = n := by omega
      go_wp2
      go_ret
      exact .inr ⟨HALL.out, rfl, HJ.out, HM.out⟩
structure DelK (w wr : World) (f F R : Nat → Prop) (v : Value) (l : List Ad) (ds : Nat → Bool) (J : Nat → World → Prop) (i j : Nat) (arr : List Ad) : Prop where
  len : arr.length = l.length
  row : RowA wr f v arr
  i_ : i = (kp ds 0 (l.take j)).length
  lt : i < j
  front : arr.take i = kp ds 0 (l.take j)
  back : arr.drop j = l.drop j
  jj : J j wr
  mod : Mod (fun k => F k ∨ v.ownBlock = some k) w wr
theorem DelK.at {w wr : World} {f F R : Nat → Prop} {v : Value} {l : List Ad} {ds : Nat → Bool} {J : Nat → World → Prop} {i j : Nat} {arr : List Ad} (h : DelK w wr f F R v l ds J i j arr) {x : Ad} (hx : l[j]? = some x) : arr[j]? = some x := by
  have := congrArg (fun l => l[0]?) h.back
  simp only [List.getElem?_drop, Nat.add_zero] at this
  rw [this, hx]
theorem rowF {w w' : World} {f F : Nat → Prop} {v : Value} {l : List Ad} (h : RowA w f v l) (hm : Mod F w w') (hF : ∀ k, F k → ¬ v.ownBlock = some k) : RowA w' f v l := by
  obtain ⟨⟨hl, h1⟩, h2⟩ := h
  refine ⟨⟨hl, ?_⟩, h2⟩
  rcases h1 with h1 | ⟨g, cap, cur, e, hb, hg, r⟩
  · exact .inl h1
  · exact .inr ⟨g, cap, cur, e, hb, hm.keep hg (fun hf => hF g hf (by rw [e]; rfl)), r⟩
set_option maxRecDepth 100000 in
set_option maxHeartbeats 400000 in
theorem DeleteFunc_any {w : World} {f : Nat → Prop} {v : Value} {l : List Ad} {g : FuncId} {cb : Array Value} {ds : Nat → Bool} {J : Nat → World → Prop} {F R : Nat → Prop} (D : Del g cb l ds J F R) (h : RowA w f v l) (hF : ∀ k, F k → ¬ v.ownBlock = some k) (hFw : ∀ k, F k → k < w.heap.size)
    (hR : ∀ k, v.ownBlock = some k → R k) (hRw : ∀ k, w.heap.size ≤ k → R k) (hn : l.length ≤ 5000) (h0 : J 0 w) :
    Calls Tryz.prog 91 #[v, .func (.func g) #[] cb] w fun e w' => ∃ v', e = .returned v' ∧ RowA w' f v' (kp ds 0 l) ∧ J l.length w' ∧ Mod (fun k => F k ∨ v.ownBlock = some k) w w' := by
  have eg := D.eg
  obtain ⟨n, hnl⟩ : ∃ n, n = l.length := ⟨_, rfl⟩
  rw [← hnl] at hn
  have HI := Lib.hid (IndexFunc_any D h hF h0)
  rw [← hnl] at HI
  obtain ⟨ad, cap, rfl, hnc, hcm, hg⟩ := Row.form h
  unfold maxLen at hcm
  rw [← hnl] at hnc HI h hF hR ⊢
  have HN := Lib.hid hnl
  have HD := Lib.hid D
  have HH := Lib.hid h
  have HF := Lib.hid hF
  have HFW := Lib.hid hFw
  have HRR := Lib.hid hR
  have HRW := Lib.hid hRw
  have HAD : Hid (0 < n → ∃ g0, ad = some ⟨g0, 0, none⟩ ∧ g0 < w.heap.size) := Lib.hid fun h => by obtain ⟨g0, e, _, hl, _⟩ := hg (by rw [← hnl]; exact h); exact ⟨g0, e, hl⟩
  clear hg hnl h h0 D hF hFw hR hRw
  go_enter Tryz.func91, Tryz.ntmps91
  go_wp2_with fail
  refine HI.out.mono ?_
  rintro e w1 (⟨i, hi, hdi, hall, rfl, hj1, hm1⟩ | ⟨hall, rfl, hj1, hm1⟩)
  · obtain ⟨g0, rfl, hg0⟩ := HAD.out (by omega)
    have HDI := Lib.hid hdi
    have hrow1 : RowA w1 f (.slice (some ⟨g0, 0, none⟩) n cap) l := rowF HH.out hm1 HF.out
    have HK0 : Hid (DelK w w1 f F R (.slice (some ⟨g0, 0, none⟩) n cap) l ds J i (i + 1) l) := Lib.hid (by
      have hx : l[i]? = some l[i] := List.getElem?_eq_getElem (by rw [← HN.out]; exact hi)
      have e1 : kp ds 0 (l.take i) = l.take i := kp_all ds _ _ fun t ht => by rw [List.length_take] at ht; rw [Nat.zero_add]; exact hall t (by omega)
      have e2 : kp ds 0 (l.take (i + 1)) = l.take i := by rw [kp_step ds l i _ hx, hdi, e1]; simp
      exact ⟨rfl, hrow1, by rw [e2, List.length_take]; have := HN.out; omega, by omega, e2.symm, rfl, hj1, hm1.mono fun k hk => .inl (.inl hk)⟩)
    have HS1 : Hid (w.heap.size ≤ w1.heap.size) := Lib.hid hm1.size
    clear hdi hall hj1 hm1 hrow1
    have hne : ((i : Int) == -1) = false := by simp
    go_wp2_with fail
    go_loopw [5, 6] (fun iv jv wr => ∃ (i j : Nat) (arr : List Ad), i ≤ n ∧ j ≤ n ∧ iv = .int .i64 (i : Int) ∧ jv = .int .i64 (j : Int) ∧ DelK w wr f F R (.slice (some ⟨g0, 0, none⟩) n cap) l ds J i j arr) (fun _ jv _ => n - (intOf jv).toNat)
    case atStart => exact ⟨i, i + 1, l, by omega, by omega, rfl, by first | rfl | go_num, HK0.out⟩
    case round =>
      clear HK0 HDI hi
      obtain ⟨i, j, arr, hin, hj, rfl, rfl, hk⟩ := hrel
      have HK := Lib.hid hk
      clear hk
      have hij := HK.out.lt
      by_cases hlt : j < n
      · obtain ⟨x, hx⟩ : ∃ x, l[j]? = some x := ⟨_, List.getElem?_eq_getElem (by rw [← HN.out]; exact hlt)⟩
        have hxa := HK.out.at hx
        have HRA : Hid (wr.rangeAt g0 (j * 17) x.c) := Lib.hid (by
          obtain ⟨g2, o2, cap2, e, _, _, hc⟩ := HK.out.row.rd.at (j := j) (by rw [HK.out.len, ← HN.out]; exact hlt)
          injection e with e
          injection e with e
          injection e with e3 e4
          subst e3 e4
          have := hc j x hxa
          rwa [Nat.zero_add] at this)
        have HXG := Lib.hid hx
        have HXS := Lib.hid x.c_sz
        have HXL := Lib.hid x.c_len
        have HX1 := Lib.hid x.c_one
        have HNB0 := Lib.hid (Blk.new wr 36 (adrC false z16))
        have HFIT : Hid (0 + x.c.length ≤ (adrC false z16).length) := Lib.hid (by rw [x.c_len]; decide)
        have HFIT2 : Hid (i * 17 + x.c.length ≤ (cellsA arr).length) := Lib.hid (by rw [x.c_len, cellsA_len, HK.out.len, ← HN.out]; omega)
        have HSW : Hid (w.heap.size ≤ wr.heap.size) := Lib.hid HK.out.mod.size
        clear hx hxa
        obtain ⟨b, hb⟩ : ∃ b, b = ds j := ⟨_, rfl⟩
        have HB := Lib.hid hb
        clear hb
        cases b with
        | true =>
          go_wp2_with (first
            | (refine wpList_load_midG rfl _ _ rfl g0 (j * 17) rfl x.c _ HRA.out Tryz.underlying36 rfl HXS.out ?_)
            | (refine wpList_store_blk rfl _ _ _ rfl wr.heap.size 0 36 (adrC false z16) x.c rfl rfl HNB0.out HFIT.out HXS.out HX1.out ?_; intro w3 HB3 HM3; have HBB := Lib.hid (splice_all HB3.out (by rw [x.c_len]; rfl)); have HM4 : Hid (Mod (fun _ => False) wr w3) := Lib.hid (((Mod.refl _ _).alloc _).trans HM3.out fun x hx => .inr (by omega)); have HC := Lib.hid (HD.out.call j x w3 HXG.out (HD.out.keep j wr w3 HK.out.jj (HM4.out.mono fun _ h => h.elim))))
            | (refine wpList_load_blk rfl _ _ rfl wr.heap.size 0 rfl 36 x.c x.c _ HBB.out (List.take_of_length_le (Nat.le_refl _)) Tryz.underlying36 rfl HXS.out ?_)
            | (go_at_fn g; refine HC.out.mono ?_; rintro e W2 ⟨rfl, hj2, hm2⟩; rw [← HB.out]; have HJ2 := Lib.hid hj2; have HM2 := Lib.hid hm2; clear hj2 hm2))
          go_roundw
          case rel =>
            have hm3 : Mod F wr W2 := (HM4.out.mono fun _ h => h.elim).trans HM2.out fun k hk => .inl hk
            refine ⟨i, j + 1, arr, by omega, by omega, rfl, by go_num, HK.out.len, ?_, ?_, by omega, ?_, ?_, HJ2.out, ?_⟩
            · exact rowF HK.out.row hm3 HF.out
            · rw [kp_step ds l j x HXG.out, ← HB.out]; simpa using HK.out.i_
            · rw [kp_step ds l j x HXG.out, ← HB.out]; simpa using HK.out.front
            · rw [← List.drop_drop, ← List.drop_drop, HK.out.back]
            · exact HK.out.mod.trans hm3 fun k hk => .inl (.inl hk)
          case measure => simp [intOf]; omega
        | false =>
          go_wp2_with (first
            | (refine wpList_load_midG rfl _ _ rfl g0 (j * 17) rfl x.c _ HRA.out Tryz.underlying36 rfl HXS.out ?_)
            | (refine wpList_store_blk rfl _ _ _ rfl wr.heap.size 0 36 (adrC false z16) x.c rfl rfl HNB0.out HFIT.out HXS.out HX1.out ?_; intro w3 HB3 HM3; have HBB := Lib.hid (splice_all HB3.out (by rw [x.c_len]; rfl)); have HM4 : Hid (Mod (fun _ => False) wr w3) := Lib.hid (((Mod.refl _ _).alloc _).trans HM3.out fun x hx => .inr (by omega)); have HC := Lib.hid (HD.out.call j x w3 HXG.out (HD.out.keep j wr w3 HK.out.jj (HM4.out.mono fun _ h => h.elim))))
            | (go_at_fn g; refine HC.out.mono ?_; rintro e W2 ⟨rfl, hj2, hm2⟩; rw [← HB.out]; have HJ2 := Lib.hid hj2; have HM2 := Lib.hid hm2; clear hj2 hm2; have HBB2 := Lib.hid (HBB.out.keep HM2.out fun hf => by have := HFW.out _ hf; have := HSW.out; omega); have HRW2 : Hid (RowA W2 f (.slice (some ⟨g0, 0, none⟩) n cap) arr) := Lib.hid (rowF HK.out.row ((HM4.out.mono fun _ h => h.elim).trans HM2.out fun k hk => .inl hk) HF.out))
            | (refine wpList_load_blk rfl _ _ rfl wr.heap.size 0 rfl 36 x.c x.c _ HBB.out (List.take_of_length_le (Nat.le_refl _)) Tryz.underlying36 rfl HXS.out ?_)
            | (refine wpList_load_blk rfl _ _ rfl wr.heap.size 0 rfl 36 x.c x.c _ HBB2.out (List.take_of_length_le (Nat.le_refl _)) Tryz.underlying36 rfl HXS.out ?_)
            | (refine wpList_store_rowK rfl _ _ _ rfl HRW2.out g0 (i * 17) x.c rfl rfl rfl HFIT2.out HXS.out HX1.out ?_; intro w5 HR5 HM5))
          go_roundw
          case rel =>
            have hm3 : Mod F wr W2 := (HM4.out.mono fun _ h => h.elim).trans HM2.out fun k hk => .inl hk
            have hia : i < arr.length := by have := HK.out.len; have := HN.out; omega
            refine ⟨i + 1, j + 1, arr.set i x, by omega, by omega, by go_num, by go_num, by rw [List.length_set]; exact HK.out.len, ?_, ?_, by omega, ?_, ?_, HD.out.keep _ _ _ HJ2.out (HM5.out.mono fun k hk => .inl (HRR.out k (by rw [hk]; rfl))), ?_⟩
            · unfold RowA
              rw [List.length_set, ← cellsA_set arr i x hia]
              exact HR5.out
            · rw [kp_step ds l j x HXG.out, ← HB.out]; simp [HK.out.i_.symm]
            · rw [kp_step ds l j x HXG.out, ← HB.out, ← HK.out.front, List.take_set, List.take_add_one, List.getElem?_eq_getElem hia]
              rw [List.set_append_right _ _ (by rw [List.length_take]; omega)]
              simp [List.length_take, show min i arr.length = i by omega]
            · rw [List.drop_set_of_lt (by omega), ← List.drop_drop, ← List.drop_drop, HK.out.back]
            · exact (HK.out.mod.trans hm3 fun k hk => .inl (.inl hk)).trans HM5.out fun k hk => .inl (.inr (by rw [hk]; rfl))
          case measure => simp [intOf]; omega
      · obtain rfl : j = n := by omega
        have HRD := Lib.hid HK.out.row.rd
        have HAL : Hid (arr.length = j) := Lib.hid (by rw [HK.out.len, ← HN.out])
        have HILE : Hid (i ≤ j) := Lib.hid (by omega)
        have HROW : Hid (Row wr f 36 17 (.slice (some ⟨g0, 0, none⟩) j cap) j (cellsA arr)) := Lib.hid (by have := HK.out.row; unfold RowA at this; rwa [HAL.out] at this)
        go_wp2_with (first
          | (refine wpList_val rfl (loV 17 (.slice (some ⟨g0, 0, none⟩) j cap) i) (exec_slice_lo Tryz.elA rfl (Row.reads HROW.out) rfl i rfl HILE.out _) ?_)
          | (refine wpList_clear_lo rfl Tryz.elA _ rfl (adrC_one false z16) HROW.out i HILE.out rfl ?_; intro w5 HR5 HM5)
          | (refine wpList_val rfl (hiV (.slice (some ⟨g0, 0, none⟩) j cap) i) (exec_slice_hi Tryz.elA rfl (Row.reads HROW.out) rfl i rfl HILE.out _) ?_))
        go_ret
        refine ⟨_, rfl, ?_, ?_, HK.out.mod.trans HM5.out fun k hk => .inl (.inr hk)⟩
        · have := HR5.out
          rw [cellsA_take, HK.out.front, HN.out, List.take_length] at this
          have e : (kp ds 0 l).length = i := by rw [HK.out.i_, HN.out, List.take_length]
          unfold RowA
          rw [e]
          exact this
        · exact HD.out.keep _ _ _ HK.out.jj (HM5.out.mono fun k hk => .inl (HRR.out k hk))
  · have hall' : kp ds 0 l = l := kp_all ds l 0 fun t ht => by rw [Nat.zero_add]; exact hall t (by rw [HN.out]; exact ht)
    have HA := Lib.hid hall'
    have HJ1 := Lib.hid hj1
    have HM1 := Lib.hid hm1
    clear hall hall' hj1 hm1
    go_wp2
    go_ret
    refine ⟨_, rfl, ?_, HJ1.out, HM1.out.mono fun k hk => .inl (.inl hk)⟩
    rw [HA.out]
    exact rowF HH.out HM1.out HF.out
theorem exec_ne {P : Program} {ev : Operand → Value} {op : Oper} {x y : Operand} {t q : TypeId} (ho : op.op = .binOp .neq t x y q) {xs ys : Array Value} (ex : ev x = .agg xs) (ey : ev y = .agg ys) {b : Bool} {w : World} (hg : P.eqGuardType P.depth t = false) (h : (Op.equalIn 10000 t (.agg xs) (.agg ys)).run P w = .ok b w) :
    (execOp ev op).run P w = .ok (.value (.bool (!b))) w := by
  simp only [execOp, ho, ex, ey, Sem.run_bind, run_eqGuard_agg w _ t _ _ _ _ hg, run_neq_struct, h, Result.andThen_ok, Sem.run_pure]
theorem eq_ad (x y : Ad) : decide (x.v = y.v ∧ x.b = y.b) = decide (x = y) := by
  by_cases h : x = y
  · subst h; simp
  · rw [decide_eq_false h, decide_eq_false fun e => h (Ad.ext' e.1 e.2)]
theorem exec_eq_ad {ev : Operand → Value} {op : Oper} {x y : Operand} {q : TypeId} (ho : op.op = .binOp .eql 36 x y q) (a b : Ad) (ex : ev x = .agg a.c.toArray) (ey : ev y = .agg b.c.toArray) (w : World) :
    (execOp ev op).run Tryz.prog w = .ok (.value (.bool (decide (a = b)))) w := by
  rw [← eq_ad]
  exact exec_eq_adr ho a.v b.v a.b b.b a.ok.1 b.ok.1 ex ey w
theorem exec_ne_ad {ev : Operand → Value} {op : Oper} {x y : Operand} {q : TypeId} (ho : op.op = .binOp .neq 36 x y q) (a b : Ad) (ex : ev x = .agg a.c.toArray) (ey : ev y = .agg b.c.toArray) (w : World) :
    (execOp ev op).run Tryz.prog w = .ok (.value (.bool (!decide (a = b)))) w := by
  rw [← eq_ad]
  exact exec_ne ho ex ey adr_guard (eqIn_adr w 9997 a.v b.v a.b b.b a.ok.1 b.ok.1)
def WAsc (l : List Ad) : Prop := (l.Pairwise fun a b => a.rk ≤ b.rk) ∧ ∀ a ∈ l, a.good = true
theorem wasc_at {l : List Ad} (h : WAsc l) {s t : Nat} {x y : Ad} (hx : l[s]? = some x) (hy : l[t]? = some y) (hst : s ≤ t) : x.rk ≤ y.rk := by
  rcases Nat.lt_or_ge s t with h3 | h3
  · obtain ⟨h1, rfl⟩ := List.getElem?_eq_some_iff.1 hx
    obtain ⟨h2, rfl⟩ := List.getElem?_eq_some_iff.1 hy
    exact List.pairwise_iff_getElem.1 h.1 s t h1 h2 h3
  · obtain rfl : s = t := by omega
    rw [hx] at hy; cases hy; exact Nat.le_refl _
theorem as_snoc {r : List Ad} {x : Ad} (h : AS r) (hg : x.good = true) (hl : ∀ y ∈ r, y.rk < x.rk) : AS (r ++ [x]) :=
  ⟨List.pairwise_append.2 ⟨h.1, List.pairwise_singleton _ _, fun a ha b hb => by rw [List.mem_singleton.1 hb]; exact hl a ha⟩, fun a ha => by
    rcases List.mem_append.1 ha with ha | ha
    · exact h.2 a ha
    · rw [List.mem_singleton.1 ha]; exact hg⟩
theorem as_next {l : List Ad} (h : WAsc l) {k : Nat} {p x : Ad} {r : List Ad} (hr : AS r) (hm : ∀ a, a ∈ r ↔ a ∈ l.take (k + 1)) (hp : l[k]? = some p) (hx : l[k + 1]? = some x) (hne : x ≠ p) : AS (r ++ [x]) := by
  have hxg := h.2 x (List.mem_of_getElem? hx)
  have hpg := h.2 p (List.mem_of_getElem? hp)
  have hpx := wasc_at h hp hx (by omega)
  have hlt : p.rk < x.rk := by
    rcases Nat.lt_or_ge p.rk x.rk with h1 | h1
    · exact h1
    · exact absurd (Ad.rk_inj hxg hpg (by omega)) hne
  refine as_snoc hr hxg fun y hy => ?_
  obtain ⟨t, ht, e⟩ := List.getElem_of_mem ((hm y).1 hy)
  have h2 : l[t]? = some y := by
    rw [List.length_take] at ht
    rw [← e, List.getElem_take, List.getElem?_eq_getElem]
  have h3 : t ≤ k := by rw [List.length_take] at ht; omega
  have := wasc_at h h2 hp h3
  omega
structure CpK (w wr : World) (f : Nat → Prop) (v : Value) (l : List Ad) (k pos : Nat) (arr : List Ad) : Prop where
  len : arr.length = l.length
  row : RowA wr f v arr
  lt : k < pos
  one : 0 < k
  fr : AS (arr.take k)
  mem : ∀ a, a ∈ arr.take k ↔ a ∈ l.take pos
  back : arr.drop (pos - 1) = l.drop (pos - 1)
  mod : Mod (fun q => v.ownBlock = some q) w wr
theorem CpK.at {w wr : World} {f : Nat → Prop} {v : Value} {l arr : List Ad} {k pos : Nat} (h : CpK w wr f v l k pos arr) {t : Nat} (ht : pos - 1 ≤ t) : arr[t]? = l[t]? := by
  have := congrArg (fun l => l[t - (pos - 1)]?) h.back
  simp only [List.getElem?_drop] at this
  rwa [show pos - 1 + (t - (pos - 1)) = t by omega] at this
theorem row_at {w : World} {f : Nat → Prop} {g n cap : Nat} {l : List Ad} (h : RowA w f (.slice (some ⟨g, 0, none⟩) n cap) l) {j : Nat} {x : Ad} (hx : l[j]? = some x) : w.rangeAt g (j * 17) x.c := by
  obtain ⟨g2, o2, cap2, e, _, _, hc⟩ := h.rd.at (j := j) (List.getElem?_eq_some_iff.1 hx).1
  injection e with e
  injection e with e
  injection e with e3 e4
  subst e3 e4
  have := hc j x hx
  rwa [Nat.zero_add] at this
set_option maxRecDepth 100000 in
set_option maxHeartbeats 2000000 in
theorem Compact_any {w : World} {f : Nat → Prop} {v : Value} {l : List Ad} (h : RowA w f v l) (hs : WAsc l) (hn : l.length ≤ 5000) :
    Calls Tryz.prog 130 #[v] w fun e w' => ∃ (v' : Value) (r : List Ad), e = .returned v' ∧ RowA w' f v' r ∧ AS r ∧ (∀ a, a ∈ r ↔ a ∈ l) ∧ Mod (fun q => v.ownBlock = some q) w w' := by
  obtain ⟨n, hnl⟩ : ∃ n, n = l.length := ⟨_, rfl⟩
  have hh := h
  obtain ⟨ad, cap, rfl, hnc, hcm, hg⟩ := Row.form h
  unfold maxLen at hcm
  rw [← hnl] at hnc hn hh ⊢
  have HN := Lib.hid hnl
  have HH := Lib.hid hh
  have HS := Lib.hid hs
  have HAD : Hid (0 < n → ∃ g0, ad = some ⟨g0, 0, none⟩) := Lib.hid fun h => by obtain ⟨g0, e, _⟩ := hg (by rw [← hnl]; exact h); exact ⟨g0, e⟩
  clear hg hnl h hh hs
  go_enter Tryz.func130, Tryz.ntmps130
  by_cases h2 : n < 2
  · have HA : Hid (AS l) := Lib.hid (by
      have h3 := HN.out
      match l, HS.out with
      | [], _ => exact AS.nil
      | [a], hs => exact AS.nil.cons (hs.2 a List.mem_cons_self) fun x hx => (by cases hx)
      | a :: b :: l, _ => simp at h3; omega)
    go_wp2
    go_ret
    exact ⟨_, l, rfl, HH.out, HA.out, fun a => Iff.rfl, Mod.refl _ _⟩
  · obtain ⟨g0, rfl⟩ := HAD.out (by omega)
    have HK0 : Hid (AS (l.take 1)) := Lib.hid (by
      have h3 := HN.out
      match l, HS.out with
      | [], _ => exact AS.nil
      | a :: l, hs => exact AS.nil.cons (hs.2 a List.mem_cons_self) fun x hx => (by cases hx))
    clear HAD
    go_wp2_with fail
    go_loopw [3] (fun kv wr => ∃ q : Nat, q + 1 ≤ n ∧ kv = .int .i64 ((q + 1 : Nat) : Int) ∧ AS (l.take (q + 1)) ∧ Mod (fun _ => False) w wr) (fun kv _ => n - (intOf kv).toNat)
    case atStart => exact ⟨0, by omega, rfl, HK0.out, Mod.refl _ _⟩
    case round =>
      clear HK0
      obtain ⟨q, hq, rfl, has, hm⟩ := hrel
      have HAS := Lib.hid has
      have HM := Lib.hid hm
      clear has hm
      obtain ⟨k, hk⟩ : ∃ k, k = q + 1 := ⟨_, rfl⟩
      rw [← hk] at HAS hq ⊢
      have HQ := Lib.hid hk
      clear hk
      by_cases hlt : k < n
      · obtain ⟨x, hx⟩ : ∃ x, l[k]? = some x := ⟨_, List.getElem?_eq_getElem (by rw [← HN.out]; exact hlt)⟩
        obtain ⟨p, hp⟩ : ∃ p, l[q]? = some p := ⟨_, List.getElem?_eq_getElem (by rw [← HN.out]; have := HQ.out; omega)⟩
        have HXA := Lib.hid (keepRange HM.out (row_at HH.out hx))
        have HPA := Lib.hid (keepRange HM.out (row_at HH.out hp))
        have HX := Lib.hid hx
        have HP := Lib.hid hp
        have HXS := Lib.hid x.c_sz
        have HPS := Lib.hid p.c_sz
        have ek : IntKind.i64.wrap ((k : Int) - 1) = (q : Int) := by have := HQ.out; rw [show (k : Int) - 1 = (q : Int) by omega]; exact IntWalk.i64_in _ (by omega)
        have hqn : q < n := by have := HQ.out; omega
        clear hx hp
        have hS : wr.drew.rangeAt g0 (k * 17) x.c ∧ wr.drew.rangeAt g0 (q * 17) p.c := ⟨HXA.out, HPA.out⟩
        go_wp2_with fail
        refine wp_region_plan [] [(0, 0), (1, 0), (2, 0), (3, 1), (4, 0), (5, 0), (6, 0), (7, 0), (8, 1), (9, 0)] (fun w' : World => w'.rangeAt g0 (k * 17) x.c ∧ w'.rangeAt g0 (q * 17) p.c) (by kernel_rfl) (by kernel_rfl) (fun d v c a w h => by first | (cases d <;> exact h) | exact HP d v c a w h) ?_
        repeat ((first | refine plan_skip rfl rfl ?_ | refine plan_pass2 rfl rfl ?_ | refine plan_pass3 rfl rfl ?_ | (refine plan_take (v := ?_) rfl rfl ?_ ?_; rotate_left; focus (intro w0; go_simp; try with_reducible rfl))); simp only [nA, nB, nC, Act.put, nD, nE, nF])
        (refine plan_held (v := .agg x.c.toArray) rfl rfl hS (fun w0 h0 => exec_load_mid _ _ rfl g0 (k * 17) rfl x.c _ w0 h0.1 Tryz.underlying36 rfl HXS.out) ?_; try simp only [nA, nB, nC, Act.put, nD, nE, nF])
        repeat ((first | refine plan_skip rfl rfl ?_ | refine plan_pass2 rfl rfl ?_ | refine plan_pass3 rfl rfl ?_ | (refine plan_take (v := ?_) rfl rfl ?_ ?_; rotate_left; focus (intro w0; go_simp; try with_reducible rfl))); simp only [nA, nB, nC, Act.put, nD, nE, nF])
        (refine plan_held (v := .agg p.c.toArray) rfl rfl hS (fun w0 h0 => exec_load_mid _ _ rfl g0 (q * 17) rfl p.c _ w0 h0.2 Tryz.underlying36 rfl HPS.out) ?_; try simp only [nA, nB, nC, Act.put, nD, nE, nF])
        refine plan_take (v := .bool (decide (x = p))) rfl rfl (fun w0 => exec_eq_ad rfl x p rfl rfl w0) ?_
        try simp only [nA, nB, nC, Act.put, nD, nE, nF]
        refine plan_nil ?_
        by_cases hxp : x = p
        · have hd : decide (x = p) = true := decide_eq_true hxp
          rw [hd]
          clear hd hS
          have HPM : Hid (CpK w wr.drew f (.slice (some ⟨g0, 0, none⟩) n cap) l k (k + 1) l) := Lib.hid (by
            refine ⟨rfl, HH.out.keep0 HM.out.drew, by omega, by have := HQ.out; omega, HAS.out, fun a => ?_, rfl, HM.out.drew.no⟩
            rw [List.take_add_one, HX.out]
            simp only [Option.toList_some, List.mem_append, List.mem_singleton]
            constructor
            · exact fun h => .inl h
            · rintro (h | rfl)
              · exact h
              · rw [hxp]
                have h3 : (l.take k)[q]? = some p := by rw [List.getElem?_take_of_lt (by have := HQ.out; omega)]; exact HP.out
                exact List.mem_of_getElem? h3)
          obtain ⟨d, hd⟩ : ∃ d, n = k + d := ⟨n - k, by omega⟩
          obtain ⟨cd, hcd⟩ : ∃ cd, cap = k + cd := ⟨cap - k, by omega⟩
          have hdc : d ≤ cd := by omega
          have hd0 : 0 < d := by omega
          have hd5 : d ≤ 5000 := by omega
          have HD := Lib.hid hd
          have HLO : Hid (loV 17 (.slice (some ⟨g0, 0, none⟩) n cap) k = .slice (some ⟨g0, k * 17, none⟩) d cd) := Lib.hid (by
            simp only [loV]
            rw [if_neg (by omega), hd, hcd, Nat.add_sub_cancel_left, Nat.add_sub_cancel_left]
            simp [addr_add])
          have HRD := Lib.hid (Row.reads (show Row w f 36 17 (.slice (some ⟨g0, 0, none⟩) n cap) n (cellsA l) by have := HH.out; unfold RowA at this; rwa [← HN.out] at this))
          clear hd hcd HAS HX HP HXA HPA HXS HPS ek hqn HM
          go_wp2_with (refine wpList_val rfl (.slice (some ⟨g0, k * 17, none⟩) d cd) (by rw [← HLO.out]; exact exec_slice_lo Tryz.elA rfl HRD.out rfl k rfl (by omega) _) ?_)
          go_loopw [3, 5] (fun kv ev wr => ∃ (kk e : Nat) (arr : List Ad), kk ≤ n ∧ e + 1 ≤ d ∧ kv = .int .i64 (kk : Int) ∧ ev = .int .i64 ((e + 1 : Nat) : Int) ∧ CpK w wr f (.slice (some ⟨g0, 0, none⟩) n cap) l kk (k + (e + 1)) arr) (fun _ ev _ => d - (intOf ev).toNat)
          case atStart => exact ⟨k, 0, l, by omega, by omega, rfl, rfl, HPM.out⟩
          case round =>
            clear HPM HLO HRD
            obtain ⟨kk, e, arr, hkk, he, rfl, rfl, hc⟩ := hrel
            have HC := Lib.hid hc
            clear hc
            obtain ⟨k2, hk2⟩ : ∃ k2, k2 = e + 1 := ⟨_, rfl⟩
            rw [← hk2] at HC he ⊢
            have HE := Lib.hid hk2
            clear hk2
            have hkp : kk < k + k2 := HC.out.lt
            have HROW : Hid (Row wr f 36 17 (.slice (some ⟨g0, 0, none⟩) n cap) n (cellsA arr)) := Lib.hid (by have := HC.out.row; unfold RowA at this; rwa [HC.out.len, ← HN.out] at this)
            by_cases hlt2 : k2 < d
            · obtain ⟨y, hy⟩ : ∃ y, l[k + k2]? = some y := ⟨_, List.getElem?_eq_getElem (by rw [← HN.out, HD.out]; omega)⟩
              obtain ⟨z, hz⟩ : ∃ z, l[k + e]? = some z := ⟨_, List.getElem?_eq_getElem (by have := HE.out; rw [← HN.out, HD.out]; omega)⟩
              have hya : arr[k + k2]? = some y := (HC.out.at (by omega)).trans hy
              have hza : arr[k + e]? = some z := (HC.out.at (by have := HE.out; omega)).trans hz
              have HYA : Hid (wr.rangeAt g0 (k * 17 + k2 * 17) y.c) := Lib.hid (by have := row_at HC.out.row hya; rwa [show (k + k2) * 17 = k * 17 + k2 * 17 by omega] at this)
              have HZA : Hid (wr.rangeAt g0 (k * 17 + e * 17) z.c) := Lib.hid (by have := row_at HC.out.row hza; rwa [show (k + e) * 17 = k * 17 + e * 17 by omega] at this)
              have HY := Lib.hid hy
              have HZ := Lib.hid hz
              have HYS := Lib.hid y.c_sz
              have HZS := Lib.hid z.c_sz
              have HY1 := Lib.hid y.c_one
              have HFIT : Hid (kk * 17 + y.c.length ≤ (cellsA arr).length) := Lib.hid (by rw [y.c_len, cellsA_len, HC.out.len, ← HN.out, HD.out]; omega)
              have ek : IntKind.i64.wrap ((k2 : Int) - 1) = (e : Int) := by have := HE.out; rw [show (k2 : Int) - 1 = (e : Int) by omega]; exact IntWalk.i64_in _ (by omega)
              have hed : e < d := by have := HE.out; omega
              have hkn : kk < n := by have := HD.out; omega
              clear hy hz hya hza
              have hS : wr.drew.rangeAt g0 (k * 17 + k2 * 17) y.c ∧ wr.drew.rangeAt g0 (k * 17 + e * 17) z.c := ⟨HYA.out, HZA.out⟩
              go_wp2_with fail
              refine wp_region_plan [] [(0, 0), (1, 0), (2, 0), (3, 1), (4, 0), (5, 0), (6, 0), (7, 0), (8, 1), (9, 0)] (fun w' : World => w'.rangeAt g0 (k * 17 + k2 * 17) y.c ∧ w'.rangeAt g0 (k * 17 + e * 17) z.c) (by kernel_rfl) (by kernel_rfl) (fun d v c a w h => by first | (cases d <;> exact h) | exact HP d v c a w h) ?_
              repeat ((first | refine plan_skip rfl rfl ?_ | refine plan_pass2 rfl rfl ?_ | refine plan_pass3 rfl rfl ?_ | (refine plan_take (v := ?_) rfl rfl ?_ ?_; rotate_left; focus (intro w0; go_simp; try with_reducible rfl))); simp only [nA, nB, nC, Act.put, nD, nE, nF])
              (refine plan_held (v := .agg y.c.toArray) rfl rfl hS (fun w0 h0 => exec_load_mid _ _ rfl g0 (k * 17 + k2 * 17) rfl y.c _ w0 h0.1 Tryz.underlying36 rfl HYS.out) ?_; try simp only [nA, nB, nC, Act.put, nD, nE, nF])
              repeat ((first | refine plan_skip rfl rfl ?_ | refine plan_pass2 rfl rfl ?_ | refine plan_pass3 rfl rfl ?_ | (refine plan_take (v := ?_) rfl rfl ?_ ?_; rotate_left; focus (intro w0; go_simp; try with_reducible rfl))); simp only [nA, nB, nC, Act.put, nD, nE, nF])
              (refine plan_held (v := .agg z.c.toArray) rfl rfl hS (fun w0 h0 => exec_load_mid _ _ rfl g0 (k * 17 + e * 17) rfl z.c _ w0 h0.2 Tryz.underlying36 rfl HZS.out) ?_; try simp only [nA, nB, nC, Act.put, nD, nE, nF])
              refine plan_take (v := .bool (!decide (y = z))) rfl rfl (fun w0 => exec_ne_ad rfl y z rfl rfl w0) ?_
              try simp only [nA, nB, nC, Act.put, nD, nE, nF]
              refine plan_nil ?_
              by_cases hyz : y = z
              · have hd : decide (y = z) = true := decide_eq_true hyz
                rw [hd]
                clear hd hS
                go_wp2
                go_roundw
                case rel =>
                  refine ⟨kk, k2, arr, hkk, by omega, rfl, by go_num, HC.out.len, HC.out.row, by omega, HC.out.one, HC.out.fr, fun a => ?_, ?_, HC.out.mod.drew⟩
                  · rw [HC.out.mem a, show k + (k2 + 1) = k + k2 + 1 by omega, List.take_add_one, HY.out]
                    simp only [Option.toList_some, List.mem_append, List.mem_singleton]
                    constructor
                    · exact fun h => .inl h
                    · rintro (h | rfl)
                      · exact h
                      · rw [hyz]
                        have h3 : (l.take (k + k2))[k + e]? = some z := by rw [List.getElem?_take_of_lt (by have := HE.out; omega)]; exact HZ.out
                        exact List.mem_of_getElem? h3
                  · have := HC.out.back
                    rw [show k + (k2 + 1) - 1 = (k + k2 - 1) + 1 by omega, ← List.drop_drop, ← List.drop_drop, this]
                case measure => simp [intOf]; omega
              · have hd : decide (y = z) = false := decide_eq_false hyz
                rw [hd]
                clear hd hS
                go_wp2_with (first
                  | (refine wpList_load_midG rfl _ _ rfl g0 (k * 17 + k2 * 17) rfl y.c _ HYA.out Tryz.underlying36 rfl HYS.out ?_)
                  | (refine wpList_store_rowK rfl _ _ _ rfl (show Row wr.drew f 36 17 (.slice (some ⟨g0, 0, none⟩) n cap) n (cellsA arr) from HROW.out) g0 (kk * 17) y.c rfl rfl rfl HFIT.out HYS.out HY1.out ?_; intro w5 HR5 HM5))
                go_roundw
                case rel =>
                  have hia : kk < arr.length := by have := HC.out.len; have := HN.out; omega
                  have ht : (arr.set kk y).take (kk + 1) = arr.take kk ++ [y] := by
                    rw [List.take_set, List.take_add_one, List.getElem?_eq_getElem hia, List.set_append_right _ _ (by rw [List.length_take]; omega)]
                    simp [List.length_take, show min kk arr.length = kk by omega]
                  refine ⟨kk + 1, k2, arr.set kk y, by omega, by omega, by go_num, by go_num, by rw [List.length_set]; exact HC.out.len, ?_, by omega, by omega, ?_, fun a => ?_, ?_, ?_⟩
                  · unfold RowA
                    rw [List.length_set, ← cellsA_set arr kk y hia, HC.out.len, ← HN.out]
                    exact HR5.out
                  · rw [ht]
                    refine as_next HS.out (k := k + e) HC.out.fr (fun a => ?_) HZ.out (by rw [show k + e + 1 = k + k2 by have := HE.out; omega]; exact HY.out) hyz
                    rw [HC.out.mem a, show k + e + 1 = k + k2 by have := HE.out; omega]
                  · rw [ht, show k + (k2 + 1) = k + k2 + 1 by omega, List.take_add_one, HY.out, List.mem_append, HC.out.mem a]
                    simp
                  · have := HC.out.back
                    rw [List.drop_set_of_lt (by omega), show k + (k2 + 1) - 1 = (k + k2 - 1) + 1 by omega, ← List.drop_drop, ← List.drop_drop, this]
                  · exact HC.out.mod.drew.trans HM5.out fun q hq => .inl (by rw [hq]; rfl)
                case measure => simp [intOf]; omega
            · have hkn : kk ≤ n := hkk
              have HPN : Hid (k + k2 = n) := Lib.hid (by rw [HD.out]; omega)
              go_wp2_with (first
                | (refine wpList_val rfl (loV 17 (.slice (some ⟨g0, 0, none⟩) n cap) kk) (exec_slice_lo Tryz.elA rfl (Row.reads HROW.out) rfl kk rfl hkn _) ?_)
                | (refine wpList_clear_lo rfl Tryz.elA _ rfl (adrC_one false z16) HROW.out kk hkn rfl ?_; intro w5 HR5 HM5)
                | (refine wpList_val rfl (hiV (.slice (some ⟨g0, 0, none⟩) n cap) kk) (exec_slice_hi Tryz.elA rfl (Row.reads HROW.out) rfl kk rfl hkn _) ?_))
              go_ret
              refine ⟨_, arr.take kk, rfl, ?_, HC.out.fr, fun a => ?_, HC.out.mod.trans HM5.out fun q hq => .inl hq⟩
              · unfold RowA
                rw [← cellsA_take, List.length_take, show min kk arr.length = kk by have := HC.out.len; have := HN.out; omega]
                exact HR5.out
              · rw [HC.out.mem a, HPN.out, HN.out, List.take_length]
        · have hd : decide (x = p) = false := decide_eq_false hxp
          rw [hd]
          have HA2 : Hid (AS (l.take (k + 1))) := Lib.hid (by
            have h3 := HX.out
            rw [HQ.out] at h3
            have := as_next HS.out (k := q) (r := l.take (q + 1)) (by rw [← HQ.out]; exact HAS.out) (fun a => Iff.rfl) HP.out h3 hxp
            rw [List.take_add_one, HX.out, HQ.out]
            exact this)
          clear hd hS
          go_wp2
          go_roundw
          case rel => exact ⟨k, by omega, by go_num, HA2.out, HM.out.drew⟩
          case measure => simp [intOf]; omega
      · have HT : Hid (l.take k = l) := Lib.hid (List.take_of_length_le (by rw [← HN.out]; omega))
        go_wp2
        go_ret
        exact ⟨_, l, rfl, HH.out.keep0 HM.out, by have := HAS.out; rwa [HT.out] at this, fun a => Iff.rfl, HM.out.no⟩
section
variable (va vb : Value) (la lb : List Ad) (w : World) (ha : RdA w va la) (hb : RdA w vb lb) (hla : la.length ≤ 2000) (hlb : lb.length ≤ 2000)
include ha hb hla hlb
theorem Or_any : Calls Tryz.prog 94 #[va, vb] w fun e w' => ∃ v, e = .returned v ∧ RowA w' (fun k => w.heap.size ≤ k) v (orA la lb) ∧ Mod (fun _ => False) w w' := by
  have HC := Lib.hid (walk_any va vb la lb true true true w ha hb hla hlb)
  clear ha hb hla hlb
  go_enter Tryz.func94, Tryz.ntmps94
  go_wp2_with (go_at_call 131; refine HC.out.mono ?_; rintro e w1 ⟨v, rfl, hr, hm⟩; have HR := Lib.hid hr; have HM := Lib.hid hm; clear hr hm)
  go_ret
  exact ⟨v, rfl, HR.out, HM.out⟩
theorem And_any : Calls Tryz.prog 127 #[va, vb] w fun e w' => ∃ v, e = .returned v ∧ RowA w' (fun k => w.heap.size ≤ k) v (andA la lb) ∧ Mod (fun _ => False) w w' := by
  have HC := Lib.hid (walk_any va vb la lb false true false w ha hb hla hlb)
  clear ha hb hla hlb
  go_enter Tryz.func127, Tryz.ntmps127
  go_wp2_with (go_at_call 131; refine HC.out.mono ?_; rintro e w1 ⟨v, rfl, hr, hm⟩; have HR := Lib.hid hr; have HM := Lib.hid hm; clear hr hm)
  go_ret
  exact ⟨v, rfl, HR.out, HM.out⟩
theorem minus_any : Calls Tryz.prog 147 #[va, vb] w fun e w' => ∃ v, e = .returned v ∧ RowA w' (fun k => w.heap.size ≤ k) v (minA la lb) ∧ Mod (fun _ => False) w w' := by
  have HC := Lib.hid (walk_any va vb la lb true false false w ha hb hla hlb)
  clear ha hb hla hlb
  go_enter Tryz.func147, Tryz.ntmps147
  go_wp2_with (go_at_call 131; refine HC.out.mono ?_; rintro e w1 ⟨v, rfl, hr, hm⟩; have HR := Lib.hid hr; have HM := Lib.hid hm; clear hr hm)
  go_ret
  exact ⟨v, rfl, HR.out, HM.out⟩
theorem Minus_any : Calls Tryz.prog 126 #[va, vb] w fun e w' => ∃ v, e = .returned v ∧ RowA w' (fun k => w.heap.size ≤ k) v (minA la lb) ∧ Mod (fun _ => False) w w' := by
  have HC := Lib.hid (minus_any va vb la lb w ha hb hla hlb)
  clear ha hb hla hlb
  go_enter Tryz.func126, Tryz.ntmps126
  go_wp2_with (go_at_call 147; refine HC.out.mono ?_; rintro e w1 ⟨v, rfl, hr, hm⟩; have HR := Lib.hid hr; have HM := Lib.hid hm; clear hr hm)
  go_ret
  exact ⟨v, rfl, HR.out, HM.out⟩
end
theorem kp_filter (ds : Nat → Bool) (p : Ad → Bool) : ∀ (l : List Ad) (j : Nat), (∀ i x, l[i]? = some x → ds (j + i) = !p x) → kp ds j l = l.filter p
  | [], _, _ => rfl
  | x :: l, j, h => by
    have h0 := h 0 x rfl
    rw [Nat.add_zero] at h0
    rw [kp, h0, kp_filter ds p l (j + 1) fun i y hy => by rw [show j + 1 + i = j + (i + 1) by omega]; exact h (i + 1) y (by simpa using hy)]
    cases hp : p x <;> simp [hp]
abbrev RT (w : World) (v : Value) (l : List Ad) : Prop := RowA w (fun _ => True) v l
theorem RowA.sl {w : World} {f : Nat → Prop} {v : Value} {l : List Ad} (h : RowA w f v l) : ∃ ad n cap, v = .slice ad n cap := by
  obtain ⟨ad, cap, e, _⟩ := Row.form h
  exact ⟨ad, _, cap, e⟩
theorem RowA.rt {w : World} {f : Nat → Prop} {v : Value} {l : List Ad} (h : RowA w f v l) : RT w v l := h.mono fun _ _ => trivial
theorem RowA.len {w : World} {f : Nat → Prop} {ad : Option Addr} {n cap : Nat} {l : List Ad} (h : RowA w f (.slice ad n cap) l) : n = l.length ∧ n ≤ cap ∧ cap ≤ maxLen := by
  obtain ⟨ad2, cap2, e, h1, h2, _⟩ := Row.form h
  injection e with _ e2 e3
  subst e3
  exact ⟨e2, by omega, h2⟩
def RetA (w : World) (l : List Ad) (e : Ending) (w' : World) : Prop := ∃ ad n cap, e = .returned (.slice ad n cap) ∧ RowA w' (fun k => w.heap.size ≤ k) (.slice ad n cap) l ∧ Mod (fun _ => False) w w'
theorem retA {w w' : World} {l : List Ad} {e : Ending} (h : ∃ v, e = .returned v ∧ RowA w' (fun k => w.heap.size ≤ k) v l ∧ Mod (fun _ => False) w w') : RetA w l e w' := by
  obtain ⟨v, rfl, hr, hm⟩ := h
  obtain ⟨ad, n, cap, rfl⟩ := hr.sl
  exact ⟨ad, n, cap, rfl, hr, hm⟩
section
variable {va vb : Value} {la lb : List Ad} {w : World} (ha : RdA w va la) (hb : RdA w vb lb) (hla : la.length ≤ 2000) (hlb : lb.length ≤ 2000)
include ha hb hla hlb
theorem Or_s : Calls Tryz.prog 94 #[va, vb] w (RetA w (orA la lb)) := (Or_any va vb la lb w ha hb hla hlb).mono fun _ _ h => retA h
theorem And_s : Calls Tryz.prog 127 #[va, vb] w (RetA w (andA la lb)) := (And_any va vb la lb w ha hb hla hlb).mono fun _ _ h => retA h
theorem Minus_s : Calls Tryz.prog 126 #[va, vb] w (RetA w (minA la lb)) := (Minus_any va vb la lb w ha hb hla hlb).mono fun _ _ h => retA h
end
theorem Clone_s {va : Value} {la : List Ad} {w : World} (ha : RdA w va la) (hla : la.length ≤ 2000) : Calls Tryz.prog 90 #[va] w (RetA w la) := (Clone_ad va la w ha (by omega)).mono fun _ _ h => retA h
set_option maxRecDepth 100000 in
theorem Of1_any (x : Ad) (w : World) : Calls Tryz.prog 129 #[.agg x.c.toArray] w fun e w' => e = .returned (.bool (!x.good)) ∧ Mod (fun _ => False) w w' := by
  have HS := Lib.hid x.c_sz
  have HA := Lib.hid (Blk.new w 36 x.c)
  have HM : Hid (Mod (fun _ => False) w (w.alloc (.cells x.c.toArray 36 (0, 0)))) := Lib.hid ((Mod.refl _ _).alloc _)
  go_enter Tryz.func129, Tryz.ntmps129
  go_wp2_with (first | (refine wpList_load_blk rfl _ _ rfl w.heap.size 0 rfl 36 x.c x.c _ HA.out (List.take_of_length_le (Nat.le_refl _)) Tryz.underlying36 rfl HS.out ?_) | (go_at_call 55; refine (Good_ad x _).mono ?_; rintro e w1 ⟨rfl, hm⟩; have HM1 := Lib.hid (HM.out.trans hm fun _ f => f.elim); clear hm))
  go_ret
  exact ⟨rfl, HM1.out⟩
theorem enters_of1 : ∀ args w, (callFunc 129 args).run Tryz.prog w = .ok (.enter 129 args) w := enters_of Tryz.func129 (by kernel_rfl) rfl
theorem delOf (l : List Ad) : Del 129 #[] l (fun i => !((l[i]?.map Ad.good).getD true)) (fun _ _ => True) (fun _ => False) (fun _ => True) where
  eg := enters_of1
  call i x W hx _ := by
    refine (Of1_any x W).mono ?_
    rintro e w' ⟨rfl, hm⟩
    exact ⟨by simp [hx], trivial, hm⟩
  keep _ _ _ _ _ := trivial
set_option maxRecDepth 100000 in
theorem Of_s {va : Value} {la : List Ad} {w : World} (ha : RdA w va la) (hla : la.length ≤ 2000) : Calls Tryz.prog 92 #[va] w (RetA w (ofA la)) := by
  have HC := Lib.hid (Clone_s ha hla)
  clear ha
  go_enter Tryz.func92, Tryz.ntmps92
  go_wp2_with fail
  refine HC.out.mono ?_
  rintro e w1 ⟨a1, n1, c1, rfl, hr1, hm1⟩
  have HR1 := Lib.hid hr1
  have HM1 := Lib.hid hm1
  clear hr1 hm1
  go_wp2_with fail
  refine (DeleteFunc_any (delOf la) HR1.out (fun _ f => f.elim) (fun _ f => f.elim) (fun _ _ => trivial) (fun _ _ => trivial) (by omega) trivial).mono ?_
  rintro e w2 ⟨v2, rfl, hr2, _, hm2⟩
  rw [kp_filter _ Ad.good la 0 fun i x hx => by rw [Nat.zero_add, hx]; rfl] at hr2
  obtain ⟨a2, n2, c2, rfl⟩ := hr2.sl
  have HR2 := Lib.hid hr2
  have HM2 := Lib.hid (HM1.out.trans hm2 fun k hk => .inr (hk.elim (fun f => f.elim) fun h => HR1.out.2 k h))
  clear hr2 hm2
  go_wp2_with fail
  refine (Sort_any HR2.out (Nat.le_trans (List.length_filter_le _ _) (by omega))).mono ?_
  rintro e w3 ⟨rfl, l3, hp3, hs3, hr3, hm3⟩
  have HR3 := Lib.hid hr3
  have HM3 := Lib.hid (HM2.out.trans hm3 fun k hk => .inr (HR2.out.2 k hk))
  have HW : Hid (WAsc l3) := Lib.hid ⟨hs3, fun a ha => (List.mem_filter.1 (hp3.mem_iff.1 ha)).2⟩
  have HP := Lib.hid hp3
  have HL3 : Hid (l3.length ≤ 5000) := Lib.hid (by rw [hp3.length_eq]; exact Nat.le_trans (List.length_filter_le _ _) (by omega))
  clear hr3 hm3 hs3 hp3
  go_wp2_with fail
  refine (Compact_any HR3.out HW.out HL3.out).mono ?_
  rintro e w4 ⟨v4, r, rfl, hr4, has, hm, hm4⟩
  have e : r = ofA la := AS.ext has (ofA_as la) fun x => by rw [hm x, HP.out.mem_iff, List.mem_filter, mem_ofA]
  subst e
  obtain ⟨a4, n4, c4, rfl⟩ := hr4.sl
  have HR4 := Lib.hid hr4
  have HM4 := Lib.hid (HM3.out.trans hm4 fun k hk => .inr (HR3.out.2 k hk))
  clear hr4 hm4 has hm
  go_wp2
  go_ret
  exact ⟨a4, n4, c4, rfl, HR4.out, HM4.out⟩
theorem stSz : (Tryz.prog.info? 26).map (·.size) = some 3 := by kernel_rfl
theorem spSz : (Tryz.prog.info? 28).map (·.size) = some 8 := by kernel_rfl
theorem bSz : (Tryz.prog.info? 4).map (·.size) = some 1 := by kernel_rfl
theorem wp_store_blk {P : Program} {w : World} {o : Oper} {a : Act} {Q : Exit → Act → World → Prop} {K : Act → World → Prop} (ty : TypeId) (x y : Operand) (ho : o.op = .store ty x y) (g off : Nat) (t : TypeId) (cur cs : List Value) (hx : a.eval x = .pointer (some ⟨g, off, none⟩)) (hy : a.eval y = .agg cs.toArray)
    (hg : Blk w g t cur) (hfit : off + cs.length ≤ cur.length) (hi : (P.info? ty).map (·.size) = some cs.length) (h1 : ∀ v ∈ cs, v.oneCell' = true)
    (h : ∀ w', Hid (Blk w' g t (splice cur off cs)) → Hid (Mod (fun k => k = g) w w') → K (a.put o.dst undef) w') : o.wp P a w K Q := by
  have hrun := run_storeAt_blk (P := P) ty g off t cur cs hg hfit hi h1
  unfold Oper.wp execOp
  simp only [ho, hx, hy, Sem.run_bind, Sem.run_pure, hrun, Result.andThen_ok]
  exact h _ (show Hid _ from Lib.hid (blk_setRow hg _)) (show Hid _ from Lib.hid ((Mod.refl (fun k => k = g) w).setRow (g := g) (.inl rfl) _))
def RetS (w : World) (ex : Bool) (on off : List Ad) (e : Ending) (w' : World) : Prop := ∃ a1 n1 c1 a2 n2 c2, e = .returned (.agg #[.bool ex, .slice a1 n1 c1, .slice a2 n2 c2]) ∧ RT w' (.slice a1 n1 c1) on ∧ RT w' (.slice a2 n2 c2) off ∧ Mod (fun _ => False) w w'
section
variable {w : World} {a1 a2 : Option Addr} {n1 c1 n2 c2 : Nat} {on off : List Ad} (ex : Bool) (h1 : RT w (.slice a1 n1 c1) on) (h2 : RT w (.slice a2 n2 c2) off) (hl1 : on.length ≤ 2000) (hl2 : off.length ≤ 2000)
include h1 h2 hl1 hl2
set_option maxRecDepth 100000 in
theorem gown_s : Calls Tryz.prog 45 #[.agg #[.bool ex, .slice a1 n1 c1, .slice a2 n2 c2]] w (RetS w ex on off) := by
  have H1 := Lib.hid h1
  have H2 := Lib.hid h2
  clear h1 h2
  go_enter Tryz.func45, Tryz.ntmps45
  go_wp2_with fail
  refine wp_new2 (t := 26) (t' := 26) (cs := [.bool ex, .slice a1 n1 c1, .slice a2 n2 c2]) (cs' := [.bool false, .slice none 0 0, .slice none 0 0]) fun W HA HB HM => ?_
  obtain ⟨pa, hpa⟩ : ∃ pa, pa = w.heap.size := ⟨_, rfl⟩
  rw [← hpa] at HA HB
  try rw [← hpa]
  have HPA := Lib.hid hpa
  clear hpa
  have hS : W.drew.cell? ⟨pa, 0, none⟩ = some (.bool ex) ∧ W.drew.cell? ⟨pa, 1, none⟩ = some (.slice a1 n1 c1) ∧ W.drew.cell? ⟨pa, 2, none⟩ = some (.slice a2 n2 c2) := ⟨HA.out.cell rfl, HA.out.cell rfl, HA.out.cell rfl⟩
  refine wp_region_plan [9] [(0, 0), (1, 1), (2, 0), (3, 1), (5, 0), (6, 1), (4, 2), (7, 2), (8, 0), (9, 3)] (fun w' : World => w'.cell? ⟨pa, 0, none⟩ = some (.bool ex) ∧ w'.cell? ⟨pa, 1, none⟩ = some (.slice a1 n1 c1) ∧ w'.cell? ⟨pa, 2, none⟩ = some (.slice a2 n2 c2)) (by kernel_rfl) (by kernel_rfl) (fun d v c a w h => by first | (cases d <;> exact h) | exact HP d v c a w h) ?_
  repeat ((first | refine plan_skip rfl rfl ?_ | refine plan_pass2 rfl rfl ?_ | refine plan_pass3 rfl rfl ?_ | (refine plan_take (v := ?_) rfl rfl ?_ ?_; rotate_left; focus (intro w0; go_simp; try with_reducible rfl)) | (refine plan_held (v := ?_) rfl rfl hS ?_ ?_; rotate_left; focus (intro w0 hSw; (try dsimp only at hSw); go_split_ands; go_simp; try with_reducible rfl)) | refine plan_skip1 rfl rfl hS ?_); simp only [nA, nB, nC, Act.put, nD, nE, nF])
  (refine plan_do rfl rfl fun K hK => ?_; try simp only [nA, nB, nC])
  go_simp
  refine (Clone_s (RowA.rd (RowA.keep0 H1.out (HM.out.drew))) hl1).mono ?_
  rintro e W1 ⟨b1, m1, d1, rfl, hr1, hm1⟩
  have HR1 := Lib.hid hr1.rt
  have HM1 : Hid (Mod (fun _ => False) w W1) := Lib.hid (HM.out.drew.trans hm1 fun _ f => f.elim)
  have HB1 := Lib.hid (HB.out.drew.keep hm1 fun f => f)
  have hS1 : W1.cell? ⟨pa, 0, none⟩ = some (.bool ex) ∧ W1.cell? ⟨pa, 1, none⟩ = some (.slice a1 n1 c1) ∧ W1.cell? ⟨pa, 2, none⟩ = some (.slice a2 n2 c2) := ⟨hm1.cell (fun f => f) hS.1, hm1.cell (fun f => f) hS.2.1, hm1.cell (fun f => f) hS.2.2⟩
  refine hK _ _ hS1 ?_
  clear hK K hr1 hm1 hS HA HB
  try simp only [nA, nB, nC, Act.put, nD, nE, nF]
  (refine plan_do rfl rfl fun K hK => ?_; try simp only [nA, nB, nC])
  go_simp
  refine (Clone_s (RowA.rd (RowA.keep0 H2.out HM1.out)) hl2).mono ?_
  rintro e W2 ⟨b2, m2, d2, rfl, hr2, hm2⟩
  have HR2 := Lib.hid hr2.rt
  have HR12 := Lib.hid (HR1.out.keep0 hm2)
  have HM2 := Lib.hid (HM1.out.trans hm2 fun _ f => f.elim)
  have HB2 := Lib.hid (HB1.out.keep hm2 fun f => f)
  refine hK _ _ ⟨hm2.cell (fun f => f) hS1.1, hm2.cell (fun f => f) hS1.2.1, hm2.cell (fun f => f) hS1.2.2⟩ ?_
  clear hK K hr2 hm2 hS1
  try simp only [nA, nB, nC, Act.put, nD, nE, nF]
  repeat ((first | refine plan_skip rfl rfl ?_ | refine plan_pass2 rfl rfl ?_ | refine plan_pass3 rfl rfl ?_ | (refine plan_take (v := ?_) rfl rfl ?_ ?_; rotate_left; focus (intro w0; go_simp; try with_reducible rfl))); simp only [nA, nB, nC, Act.put, nD, nE, nF])
  (refine plan_end rfl rfl rfl fun K hK => ?_; (try simp only [nA, nB, nC]))
  refine wp_store_blk 26 _ _ rfl (pa + 1) 0 26 _ [.bool ex, .slice b1 m1 d1, .slice b2 m2 d2] rfl rfl HB2.out (by simp) stSz (by simp [Value.oneCell']) ?_
  intro W3 HB3 HM3
  refine hK _ _ ?_
  clear hK K
  try simp only [nA, nB, nC, Act.put, nD, nE, nF]
  refine plan_nil ?_
  go_wp2
  refine bodyPost_ret (results_blk rfl _ (pa + 1) 26 [.bool ex, .slice b1 m1 d1, .slice b2 m2 d2] rfl (splice_all HB3.out rfl) Tryz.underlying26 rfl stSz) rfl ?_
  refine ⟨b1, m1, d1, b2, m2, d2, rfl, HR12.out.keepT HM3.out (HB2.out.notA (by decide)), HR2.out.keepT HM3.out (HB2.out.notA (by decide)), HM2.out.trans HM3.out fun k hk => .inr ?_⟩
  have := HPA.out
  omega
set_option maxRecDepth 100000 in
theorem fown_s : Calls Tryz.prog 125 #[.agg #[.bool ex, .slice a1 n1 c1, .slice a2 n2 c2]] w (RetS w ex on off) := by
  have H1 := Lib.hid h1
  have H2 := Lib.hid h2
  clear h1 h2
  go_enter Tryz.func125, Tryz.ntmps125
  go_wp2_with fail
  refine wp_new2 (t := 26) (t' := 26) (cs := [.bool ex, .slice a1 n1 c1, .slice a2 n2 c2]) (cs' := [.bool false, .slice none 0 0, .slice none 0 0]) fun W HA HB HM => ?_
  obtain ⟨pa, hpa⟩ : ∃ pa, pa = w.heap.size := ⟨_, rfl⟩
  rw [← hpa] at HA HB
  try rw [← hpa]
  have HPA := Lib.hid hpa
  clear hpa
  have hS : W.drew.cell? ⟨pa, 1, none⟩ = some (.slice a1 n1 c1) ∧ W.drew.cell? ⟨pa, 2, none⟩ = some (.slice a2 n2 c2) := ⟨HA.out.cell rfl, HA.out.cell rfl⟩
  refine wp_region_plan [7, 9] [(0, 0), (1, 1), (3, 0), (4, 1), (2, 2), (6, 0), (5, 2), (7, 3), (8, 0), (9, 3)] (fun w' : World => w'.cell? ⟨pa, 1, none⟩ = some (.slice a1 n1 c1) ∧ w'.cell? ⟨pa, 2, none⟩ = some (.slice a2 n2 c2)) (by kernel_rfl) (by kernel_rfl) (fun d v c a w h => by first | (cases d <;> exact h) | exact HP d v c a w h) ?_
  repeat ((first | refine plan_skip rfl rfl ?_ | refine plan_pass2 rfl rfl ?_ | refine plan_pass3 rfl rfl ?_ | (refine plan_take (v := ?_) rfl rfl ?_ ?_; rotate_left; focus (intro w0; go_simp; try with_reducible rfl)) | (refine plan_held (v := ?_) rfl rfl hS ?_ ?_; rotate_left; focus (intro w0 hSw; (try dsimp only at hSw); go_split_ands; go_simp; try with_reducible rfl)) | refine plan_skip1 rfl rfl hS ?_); simp only [nA, nB, nC, Act.put, nD, nE, nF])
  (refine plan_do rfl rfl fun K hK => ?_; try simp only [nA, nB, nC])
  go_simp
  refine (Clone_s (RowA.rd (RowA.keep0 H1.out (HM.out.drew))) hl1).mono ?_
  rintro e W1 ⟨b1, m1, d1, rfl, hr1, hm1⟩
  have HR1 := Lib.hid hr1.rt
  have HM1 : Hid (Mod (fun _ => False) w W1) := Lib.hid (HM.out.drew.trans hm1 fun _ f => f.elim)
  have HA1 := Lib.hid (HA.out.drew.keep hm1 fun f => f)
  have HB1 := Lib.hid (HB.out.drew.keep hm1 fun f => f)
  have hS1 : W1.cell? ⟨pa, 1, none⟩ = some (.slice a1 n1 c1) ∧ W1.cell? ⟨pa, 2, none⟩ = some (.slice a2 n2 c2) := ⟨hm1.cell (fun f => f) hS.1, hm1.cell (fun f => f) hS.2⟩
  refine hK _ _ hS1 ?_
  clear hK K hr1 hm1 hS HA HB
  try simp only [nA, nB, nC, Act.put, nD, nE, nF]
  repeat ((first | refine plan_skip rfl rfl ?_ | refine plan_pass2 rfl rfl ?_ | refine plan_pass3 rfl rfl ?_ | (refine plan_take (v := ?_) rfl rfl ?_ ?_; rotate_left; focus (intro w0; go_simp; try with_reducible rfl)) | (refine plan_held (v := ?_) rfl rfl hS1 ?_ ?_; rotate_left; focus (intro w0 hSw; (try dsimp only at hSw); go_split_ands; go_simp; try with_reducible rfl)) | refine plan_skip1 rfl rfl hS1 ?_); simp only [nA, nB, nC, Act.put, nD, nE, nF])
  (refine plan_do rfl rfl fun K hK => ?_; try simp only [nA, nB, nC])
  go_simp
  refine (Clone_s (RowA.rd (RowA.keep0 H2.out HM1.out)) hl2).mono ?_
  rintro e W2 ⟨b2, m2, d2, rfl, hr2, hm2⟩
  have HR2 := Lib.hid hr2.rt
  have HR12 := Lib.hid (HR1.out.keep0 hm2)
  have HM2 := Lib.hid (HM1.out.trans hm2 fun _ f => f.elim)
  have HA2 := Lib.hid (HA1.out.keep hm2 fun f => f)
  have HB2 := Lib.hid (HB1.out.keep hm2 fun f => f)
  refine hK _ _ ⟨hm2.cell (fun f => f) hS1.1, hm2.cell (fun f => f) hS1.2⟩ ?_
  clear hK K hr2 hm2 hS1
  try simp only [nA, nB, nC, Act.put, nD, nE, nF]
  repeat ((first | refine plan_skip rfl rfl ?_ | refine plan_pass2 rfl rfl ?_ | refine plan_pass3 rfl rfl ?_ | (refine plan_take (v := ?_) rfl rfl ?_ ?_; rotate_left; focus (intro w0; go_simp; try with_reducible rfl))); simp only [nA, nB, nC, Act.put, nD, nE, nF])
  (refine plan_end rfl rfl rfl fun K hK => ?_; (try simp only [nA, nB, nC]))
  refine wp_store_blk1 24 _ _ rfl pa 1 26 _ (.slice b1 m1 d1) rfl rfl HA2.out (by simp) slASz rfl ?_
  intro W3 HA3 HM3
  have HB3 := Lib.hid (HB2.out.keep HM3.out fun e => by omega)
  have HR13 := Lib.hid (HR12.out.keepT HM3.out (HA2.out.notA (by decide)))
  have HR23 := Lib.hid (HR2.out.keepT HM3.out (HA2.out.notA (by decide)))
  have HMM3 : Hid (Mod (fun _ => False) w W3) := Lib.hid (HM2.out.trans HM3.out fun k hk => .inr (by have := HPA.out; omega))
  refine hK _ _ ?_
  clear hK K
  try simp only [nA, nB, nC, Act.put, nD, nE, nF]
  repeat ((first | refine plan_skip rfl rfl ?_ | refine plan_pass2 rfl rfl ?_ | refine plan_pass3 rfl rfl ?_ | (refine plan_take (v := ?_) rfl rfl ?_ ?_; rotate_left; focus (intro w0; go_simp; try with_reducible rfl))); simp only [nA, nB, nC, Act.put, nD, nE, nF])
  (refine plan_end rfl rfl rfl fun K hK => ?_; (try simp only [nA, nB, nC]))
  refine wp_store_blk1 24 _ _ rfl pa 2 26 _ (.slice b2 m2 d2) rfl rfl HA3.out (by simp) slASz rfl ?_
  intro W4 HA4 HM4
  have HB4 := Lib.hid (HB3.out.keep HM4.out fun e => by omega)
  have HR14 := Lib.hid (HR13.out.keepT HM4.out (HA3.out.notA (by decide)))
  have HR24 := Lib.hid (HR23.out.keepT HM4.out (HA3.out.notA (by decide)))
  have HMM4 : Hid (Mod (fun _ => False) w W4) := Lib.hid (HMM3.out.trans HM4.out fun k hk => .inr (by have := HPA.out; omega))
  have HA5 : Hid (Blk W4 pa 26 [.bool ex, .slice b1 m1 d1, .slice b2 m2 d2]) := Lib.hid HA4.out
  refine hK _ _ ?_
  clear hK K
  try simp only [nA, nB, nC, Act.put, nD, nE, nF]
  refine plan_nil ?_
  go_wp2_with (first | (refine wpList_load_blk rfl _ _ rfl pa 0 rfl 26 _ [.bool ex, .slice b1 m1 d1, .slice b2 m2 d2] _ HA5.out rfl Tryz.underlying26 rfl stSz ?_) | (refine wpList_store_blk rfl _ _ _ rfl (pa + 1) 0 26 _ [.bool ex, .slice b1 m1 d1, .slice b2 m2 d2] rfl rfl HB4.out (by simp) stSz (by simp [Value.oneCell']) ?_; intro W5 HB5 HM5))
  refine bodyPost_ret (results_blk rfl _ (pa + 1) 26 [.bool ex, .slice b1 m1 d1, .slice b2 m2 d2] rfl (splice_all HB5.out rfl) Tryz.underlying26 rfl stSz) rfl ?_
  refine ⟨b1, m1, d1, b2, m2, d2, rfl, HR14.out.keepT HM5.out (HB4.out.notA (by decide)), HR24.out.keepT HM5.out (HB4.out.notA (by decide)), HMM4.out.trans HM5.out fun k hk => .inr ?_⟩
  have := HPA.out
  omega
omit h2 hl2 in
set_option maxRecDepth 100000 in
theorem Turn_s : Calls Tryz.prog 85 #[.agg #[.bool ex, .slice a1 n1 c1, .slice a2 n2 c2]] w (RetS w false on []) := by
  have H1 := Lib.hid h1
  clear h1
  have hc : ((w.alloc (.cells #[.bool ex, .slice a1 n1 c1, .slice a2 n2 c2] 26 (0, 0))).alloc (.cells #[.bool false, .slice none 0 0, .slice none 0 0] 26 (0, 0))).cell? ⟨w.heap.size, 1, none⟩ = some (.slice a1 n1 c1) := ((Blk.new w 26 [.bool ex, .slice a1 n1 c1, .slice a2 n2 c2]).alloc _).cell rfl
  have HM : Hid (Mod (fun _ => False) w ((w.alloc (.cells #[.bool ex, .slice a1 n1 c1, .slice a2 n2 c2] 26 (0, 0))).alloc (.cells #[.bool false, .slice none 0 0, .slice none 0 0] 26 (0, 0)))) := Lib.hid (((Mod.refl _ _).alloc _).alloc _)
  have HB : Hid (Blk ((w.alloc (.cells #[.bool ex, .slice a1 n1 c1, .slice a2 n2 c2] 26 (0, 0))).alloc (.cells #[.bool false, .slice none 0 0, .slice none 0 0] 26 (0, 0))) (w.heap.size + 1) 26 [.bool false, .slice none 0 0, .slice none 0 0]) := Lib.hid (by
    have := Blk.new (w.alloc (.cells #[.bool ex, .slice a1 n1 c1, .slice a2 n2 c2] 26 (0, 0))) 26 [.bool false, .slice none 0 0, .slice none 0 0]
    rwa [show (w.alloc (.cells #[.bool ex, .slice a1 n1 c1, .slice a2 n2 c2] 26 (0, 0))).heap.size = w.heap.size + 1 by simp] at this)
  go_enter Tryz.func85, Tryz.ntmps85
  go_wp2_with (first | (go_at_call 90; refine (Clone_s (RowA.rd (RowA.keep0 H1.out HM.out)) hl1).mono ?_; rintro e W1 ⟨b1, m1, d1, rfl, hr1, hm1⟩; have HR1 := Lib.hid hr1.rt; have HM1 := Lib.hid (HM.out.trans hm1 fun _ f => f.elim); have HB1 := Lib.hid (HB.out.keep hm1 fun f => f); clear hr1 hm1) | (refine wpList_store_blk rfl _ _ _ rfl (w.heap.size + 1) 0 26 _ [.bool false, .slice b1 m1 d1, .slice none 0 0] rfl rfl HB1.out (by simp) stSz (by simp [Value.oneCell']) ?_; intro W5 HB5 HM5))
  refine bodyPost_ret (results_blk rfl _ (w.heap.size + 1) 26 [.bool false, .slice b1 m1 d1, .slice none 0 0] rfl (splice_all HB5.out rfl) Tryz.underlying26 rfl stSz) rfl ?_
  exact ⟨b1, m1, d1, none, 0, 0, rfl, HR1.out.keepT HM5.out (HB1.out.notA (by decide)), RowA.nil _ _, HM1.out.trans HM5.out fun k hk => .inr (by omega)⟩
end
end Go.Proofs.YtcccdlmngddalaaGreat
