/- The family of slices.SortFunc at strings, compared by a bound method value: base. (Printed by gen_sort.py.) -/
import Derived.Test.YtcccdlmngddalaaGreatApR
import Derived.Test.YtcccdlmngddalaaGreatRegT
import Derived.Test.YtcccdlmngddalaaGreatRowK
import Derived.Handy
import Derived.Deep.CutBlock
set_option linter.unusedVariables false
set_option linter.unusedSimpArgs false
namespace Go.Proofs.YtcccdlmngddalaaGreat
open Go.RowKit
theorem sSz : (Tryz.prog.info? 9).map (·.size) = some 1 := by kernel_rfl
theorem wp_store_row1 {P : Program} {w : World} {o : Oper} {a : Act} {K : Act → World → Prop} {Q : Exit → Act → World → Prop} (ty : TypeId) (x y : Operand) (ho : o.op = .store ty x y) {f : Nat → Prop} {e : TypeId} {sz n : Nat} {v : Value} {xs : List Value} (hr : Row w f e sz v n xs) (g off : Nat) (u : Value)
    (hx : a.eval x = .pointer (some ⟨g, off, none⟩)) (hy : a.eval y = u) (hg : v.ownBlock = some g) (hfit : off < xs.length) (hi : (P.info? ty).map (·.size) = some 1) (h1 : u.oneCell' = true)
    (h : ∀ w', Hid (Row w' f e sz v n (xs.set off u)) → Hid (Mod (fun k => k = g) w w') → K (a.put o.dst undef) w') : o.wp P a w K Q := by
  obtain ⟨w', hrun, h2, h3⟩ := run_storeAt_row1 (P := P) hr ty g off u hg hfit hi h1
  unfold Oper.wp execOp
  simp only [ho, hx, hy, Sem.run_bind, Sem.run_pure, hrun, Result.andThen_ok]
  exact h _ (Lib.hid h2) (Lib.hid h3)
structure SCx (c g n cap : Nat) (ss0 : List ByteArray) (w0 : World) : Prop where
  n4 : n ≤ 49
  cmp : ∀ (W : World) (x y : ByteArray), Mod (fun k => k = g) w0 W → x ∈ ss0 → y ∈ ss0 → Calls Tryz.prog 102 #[.pointer (some ⟨c, 0, none⟩), .string x, .string y] W fun e W' => (∃ r : Int, e = .returned (.int .i64 r)) ∧ Mod (fun _ => False) W W'
abbrev SRow (W : World) (g n cap : Nat) (ss : List ByteArray) : Prop := Row W (fun _ => True) 9 1 (.slice (some ⟨g, 0, none⟩) n cap) n (ss.map Value.string)
def Srd (g n cap : Nat) (ss0 : List ByteArray) (w0 W : World) : Prop := ∃ ss : List ByteArray, ss.Perm ss0 ∧ SRow W g n cap ss ∧ Mod (fun k => k = g) w0 W
section
variable {c g n cap : Nat} {ss0 : List ByteArray} {w0 : World}
theorem Srt.len {W : World} {ss : List ByteArray} (h : SRow W g n cap ss) : ss.length = n := by have := Row.len h; simpa using this
theorem Srt.len' {W : World} {ss : List ByteArray} (h : SRow W g n cap ss) : (ss.map Value.string).length = n := by rw [List.length_map]; exact Srt.len h
theorem Srt.mk' {W : World} {ss : List ByteArray} (h1 : ss.Perm ss0) (h2 : SRow W g n cap ss) (h3 : Mod (fun k => k = g) w0 W) : Srd g n cap ss0 w0 W := ⟨ss, h1, h2, h3⟩
theorem Srt.cell {W : World} {ss : List ByteArray} (h : SRow W g n cap ss) {i : Nat} {x : ByteArray} (hx : ss[i]? = some x) : W.cell? ⟨g, i, none⟩ = some (.string x) := by
  have hl := Srt.len h
  obtain ⟨hi, _⟩ := List.getElem?_eq_some_iff.1 hx
  obtain ⟨a, cap', e, _, _, hg⟩ := Row.form h
  obtain ⟨g', e2, _, _, hc⟩ := hg (by omega)
  simp only [Value.slice.injEq] at e
  obtain ⟨e3, -, -⟩ := e
  rw [← e3] at e2
  simp only [Option.some.injEq, Addr.mk.injEq, and_true] at e2
  rw [e2]
  exact hc i _ (by rw [List.getElem?_map, hx]; rfl)
theorem Srd.calm {W W' : World} (h : Srd g n cap ss0 w0 W) (hm : Mod (fun _ => False) W W') : Srd g n cap ss0 w0 W' := by
  obtain ⟨ss, h1, h2, h3⟩ := h
  exact ⟨ss, h1, h2.keep hm fun _ _ f => f, h3.trans hm fun _ f => f.elim⟩
theorem Srd.drew {W : World} (h : Srd g n cap ss0 w0 W) : Srd g n cap ss0 w0 W.drew := h.calm (Mod.refl _ _).drew
theorem Srt.swap {W W' : World} {ss : List ByteArray} {i j : Nat} {x y : ByteArray} (h1 : ss.Perm ss0) (h2 : SRow W g n cap ss) (h3 : Mod (fun k => k = g) w0 W) (hx : ss[i]? = some x) (hy : ss[j]? = some y)
    (hr : Row W' (fun _ => True) 9 1 (.slice (some ⟨g, 0, none⟩) n cap) n (((ss.map Value.string).set i (.string y)).set j (.string x))) (hm : Mod (fun k => k = g) W W') : Srd g n cap ss0 w0 W' := by
  obtain ⟨hi, rfl⟩ := List.getElem?_eq_some_iff.1 hx
  obtain ⟨hj, rfl⟩ := List.getElem?_eq_some_iff.1 hy
  refine ⟨(ss.set i ss[j]).set j ss[i], (List.set_set_perm hi hj).trans h1, ?_, h3.trans hm fun k hk => .inl hk⟩
  unfold SRow
  rw [List.map_set, List.map_set]
  exact hr
end
section
variable {c g n cap : Nat} {ss0 : List ByteArray} {w0 : World}
set_option maxRecDepth 100000 in
set_option maxHeartbeats 2000000 in
theorem insS (HC : Hid (SCx c g n cap ss0 w0)) {W : World} (hS : Srd g n cap ss0 w0 W) (a b : Nat) (hab : a ≤ b) (hb : b ≤ n) :
    Calls Tryz.prog 177 #[.slice (some ⟨g, 0, none⟩) n cap, .int .i64 (a : Int), .int .i64 (b : Int), .func (.func 102) #[.pointer (some ⟨c, 0, none⟩)] #[]] W fun e W' => e = .returned (.tuple #[]) ∧ Srd g n cap ss0 w0 W' := by
  have hn4 := HC.out.n4
  have HS := Lib.hid hS
  clear hS
  go_enter Tryz.func177, Tryz.ntmps177
  go_wp2_with fail
  go_loopw [8] (fun iv wr => ∃ i : Nat, a + 1 ≤ i ∧ i ≤ b + 1 ∧ iv = .int .i64 (i : Int) ∧ Srd g n cap ss0 w0 wr) (fun iv _ => b + 1 - (intOf iv).toNat)
  case atStart => exact ⟨a + 1, by omega, by omega, by go_num, HS.out⟩
  case round =>
    obtain ⟨i, hai, hib, rfl, hs⟩ := hrel
    have HSI := Lib.hid hs
    clear hs HS
    by_cases hlt : i < b
    · go_wp2_with fail
      go_loopw [9] (fun jv wr => ∃ j : Nat, a ≤ j ∧ j ≤ i ∧ jv = .int .i64 (j : Int) ∧ Srd g n cap ss0 w0 wr) (fun jv _ => (intOf jv).toNat)
      case atStart => exact ⟨i, by omega, by omega, rfl, HSI.out⟩
      case round =>
        obtain ⟨j, haj, hji, rfl, hs⟩ := hrel
        clear HSI
        by_cases hja : a < j
        · obtain ⟨jp, hjp⟩ : ∃ q, q + 1 = j := ⟨j - 1, by omega⟩
          have HJP := Lib.hid hjp
          have e1 : (j : Int) - 1 = (jp : Int) := by omega
          have hjn : j < n := by omega
          have hpn : jp < n := by omega
          have q1 : (j : Int) < (n : Int) := by omega
          have q2 : (jp : Int) < (n : Int) := by omega
          have e2 : IntKind.i64.wrap (jp : Int) = (jp : Int) := IntWalk.i64_in _ (by omega)
          have q3 : (a : Int) < (j : Int) := by omega
          have q4 : decide ((a : Int) < (j : Int)) = true := decide_eq_true q3
          clear hjp
          go_wp2_with fail
          obtain ⟨ssA, hpA, hrA, hmA⟩ := hs
          obtain ⟨xA, hxA⟩ : ∃ x, ssA[j]? = some x := ⟨_, List.getElem?_eq_getElem (by rw [Srt.len hrA]; omega)⟩
          obtain ⟨yA, hyA⟩ : ∃ x, ssA[jp]? = some x := ⟨_, List.getElem?_eq_getElem (by rw [Srt.len hrA]; omega)⟩
          have hSA : wr.drew.cell? ⟨g, j, none⟩ = some (.string xA) ∧ wr.drew.cell? ⟨g, jp, none⟩ = some (.string yA) := ⟨Srt.cell hrA hxA, Srt.cell hrA hyA⟩
          have hcA := HC.out.cmp wr.drew xA yA hmA.drew (hpA.mem_iff.1 (List.mem_of_getElem? hxA)) (hpA.mem_iff.1 (List.mem_of_getElem? hyA))
          have HSA := Lib.hid (Srt.mk' hpA hrA hmA)
          have HCA := Lib.hid hcA
          clear hpA hrA hmA hxA hyA hcA
          refine wp_region_plan [14] [(0, 0), (1, 0), (2, 0), (3, 0), (4, 0), (5, 0), (6, 0), (7, 0), (8, 1), (9, 0), (10, 0), (11, 0), (12, 0), (13, 1), (14, 3), (15, 0), (16, 0)] (fun w' : World => w'.cell? ⟨g, j, none⟩ = some (.string xA) ∧ w'.cell? ⟨g, jp, none⟩ = some (.string yA)) (by kernel_rfl) (by kernel_rfl) (fun d v c a w h => by first | (cases d <;> exact h) | exact HP d v c a w h) ?_
          repeat ((first | refine plan_skip rfl rfl ?_ | refine plan_pass2 rfl rfl ?_ | refine plan_pass3 rfl rfl ?_ | (refine plan_take (v := ?_) rfl rfl ?_ ?_; rotate_left; focus (intro w0; go_simp; try with_reducible rfl)) | (refine plan_held (v := ?_) rfl rfl hSA ?_ ?_; rotate_left; focus (intro w0 hSw; (try dsimp only at hSw); go_split_ands; go_simp; try with_reducible rfl)) | refine plan_skip1 rfl rfl hSA ?_); simp only [nA, nB, nC, Act.put, nD, nE, nF])
          (refine plan_end rfl rfl rfl fun K hK => ?_; (try simp only [nA, nB, nC]))
          go_simp
          refine HCA.out.mono ?_
          rintro e W2 ⟨⟨rA, rfl⟩, hmA⟩
          have hs2 : Srd g n cap ss0 w0 W2 := HSA.out.calm ((Mod.refl _ _).drew.trans hmA fun _ f => f.elim)
          refine hK _ _ ?_
          clear hK K hSA HSA HCA hmA
          try simp only [nA, nB, nC, Act.put, nD, nE, nF]
          by_cases hr : rA < 0
          · have hd : decide (rA < 0) = true := decide_eq_true hr
            repeat ((first | refine plan_skip rfl rfl ?_ | refine plan_pass2 rfl rfl ?_ | refine plan_pass3 rfl rfl ?_ | (refine plan_take (v := ?_) rfl rfl ?_ ?_; rotate_left; focus (intro w0; go_simp; try with_reducible rfl))); simp only [nA, nB, nC, Act.put, nD, nE, nF])
            refine plan_nil ?_
            go_wp2_with fail
            obtain ⟨ssA, hpA, hrA, hmA⟩ := hs2
            obtain ⟨xA, hxA⟩ : ∃ x, ssA[j]? = some x := ⟨_, List.getElem?_eq_getElem (by rw [Srt.len hrA]; omega)⟩
            obtain ⟨yA, hyA⟩ : ∃ x, ssA[jp]? = some x := ⟨_, List.getElem?_eq_getElem (by rw [Srt.len hrA]; omega)⟩
            have hSA : W2.drew.cell? ⟨g, j, none⟩ = some (.string xA) ∧ W2.drew.cell? ⟨g, jp, none⟩ = some (.string yA) := ⟨Srt.cell hrA hxA, Srt.cell hrA hyA⟩
            have HPA := Lib.hid hpA
            have HRA := Lib.hid hrA
            have HMA := Lib.hid hmA
            have HXA := Lib.hid hxA
            have HYA := Lib.hid hyA
            clear hpA hrA hmA hxA hyA
            refine wp_region_plan [15, 17] [(0, 0), (1, 0), (2, 0), (3, 0), (4, 0), (5, 0), (6, 0), (7, 0), (8, 0), (9, 1), (10, 0), (11, 0), (12, 0), (13, 1), (14, 0), (15, 3), (16, 0), (17, 3)] (fun w' : World => w'.cell? ⟨g, j, none⟩ = some (.string xA) ∧ w'.cell? ⟨g, jp, none⟩ = some (.string yA)) (by kernel_rfl) (by kernel_rfl) (fun d v c a w h => by first | (cases d <;> exact h) | exact HP d v c a w h) ?_
            repeat ((first | refine plan_skip rfl rfl ?_ | refine plan_pass2 rfl rfl ?_ | refine plan_pass3 rfl rfl ?_ | (refine plan_take (v := ?_) rfl rfl ?_ ?_; rotate_left; focus (intro w0; go_simp; try with_reducible rfl)) | (refine plan_held (v := ?_) rfl rfl hSA ?_ ?_; rotate_left; focus (intro w0 hSw; (try dsimp only at hSw); go_split_ands; go_simp; try with_reducible rfl)) | refine plan_skip1 rfl rfl hSA ?_); simp only [nA, nB, nC, Act.put, nD, nE, nF])
            (refine plan_end rfl rfl rfl fun K hK => ?_; (try simp only [nA, nB, nC]))
            refine wp_store_row1 9 _ _ rfl (Row.drew HRA.out) g (j) (.string yA) rfl rfl rfl (by rw [Srt.len' HRA.out]; omega) sSz rfl ?_
            intro W3 HR3 HM3
            refine hK _ _ ?_
            clear hK K hSA
            try simp only [nA, nB, nC, Act.put, nD, nE, nF]
            repeat ((first | refine plan_skip rfl rfl ?_ | refine plan_pass2 rfl rfl ?_ | refine plan_pass3 rfl rfl ?_ | (refine plan_take (v := ?_) rfl rfl ?_ ?_; rotate_left; focus (intro w0; go_simp; try with_reducible rfl))); simp only [nA, nB, nC, Act.put, nD, nE, nF])
            (refine plan_end rfl rfl rfl fun K hK => ?_; (try simp only [nA, nB, nC]))
            refine wp_store_row1 9 _ _ rfl HR3.out g (jp) (.string xA) rfl rfl rfl (by rw [List.length_set, Srt.len' HRA.out]; omega) sSz rfl ?_
            intro W4 HR4 HM4
            refine hK _ _ ?_
            clear hK K
            try simp only [nA, nB, nC, Act.put, nD, nE, nF]
            refine plan_nil ?_
            have hs4 : Srd g n cap ss0 w0 W4 := Srt.swap HPA.out HRA.out HMA.out HXA.out HYA.out HR4.out (((Mod.refl _ _).drew.trans HM3.out fun q hq => .inl hq).trans HM4.out fun q hq => .inl hq)
            clear HPA HRA HMA HXA HYA HR3 HM3 HR4 HM4
            have HS4 := Lib.hid hs4
            clear hs4
            go_wp2
            go_roundw
            case rel => exact ⟨jp, by have := HJP.out; omega, by have := HJP.out; omega, by go_num, HS4.out⟩
            case measure => have := HJP.out; simp [intOf]; omega
          · have hd : decide (rA < 0) = false := decide_eq_false hr
            repeat ((first | refine plan_skip rfl rfl ?_ | refine plan_pass2 rfl rfl ?_ | refine plan_pass3 rfl rfl ?_ | (refine plan_take (v := ?_) rfl rfl ?_ ?_; rotate_left; focus (intro w0; go_simp; try with_reducible rfl))); simp only [nA, nB, nC, Act.put, nD, nE, nF])
            refine plan_nil ?_
            have HS2 := Lib.hid hs2
            clear hs2
            go_wp2
            go_roundw
            case rel => exact ⟨i + 1, by omega, by omega, by go_num, HS2.out⟩
            case measure => simp [intOf]; omega
        · have q3 : ¬ (a : Int) < (j : Int) := by omega
          have q4 : decide ((a : Int) < (j : Int)) = false := decide_eq_false q3
          have HS2 := Lib.hid hs.drew
          clear hs
          go_wp2_with fail
          refine wp_region_plan [14] [(0, 0), (1, 0), (2, 0), (3, 0), (4, 0), (5, 0), (6, 0), (7, 0), (8, 1), (9, 0), (10, 0), (11, 0), (12, 0), (13, 1), (14, 3), (15, 0), (16, 0)] (fun w' : World => True) (by kernel_rfl) (by kernel_rfl) (fun d v c a w h => by first | (cases d <;> exact h) | exact HP d v c a w h) ?_
          repeat ((first | refine plan_skip rfl rfl ?_ | refine plan_pass2 rfl rfl ?_ | refine plan_pass3 rfl rfl ?_ | (refine plan_take (v := ?_) rfl rfl ?_ ?_; rotate_left; focus (intro w0; go_simp; try with_reducible rfl)) | (refine plan_held (v := ?_) rfl rfl trivial ?_ ?_; rotate_left; focus (intro w0 hSw; (try dsimp only at hSw); go_split_ands; go_simp; try with_reducible rfl)) | refine plan_skip1 rfl rfl trivial ?_); simp only [nA, nB, nC, Act.put, nD, nE, nF])
          refine plan_nil ?_
          go_wp2
          go_roundw
          case rel => exact ⟨i + 1, by omega, by omega, by go_num, HS2.out⟩
          case measure => simp [intOf]; omega
    · have HSE := HSI
      go_wp2
      go_end0
      exact ⟨rfl, HSE.out⟩
end
end Go.Proofs.YtcccdlmngddalaaGreat
