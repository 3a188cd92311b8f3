/- slices.Sort at uint32, of up to twelve numbers: contract. -/
import Derived.Test.YtegjamjognpdkaaGreatOwnA
import Derived.Test.YtegjamjognpdkaaGreatSeqK
namespace Go.Proofs.YtegjamjognpdkaaGreat
open Go.RowKit
set_option linter.unusedVariables false
set_option linter.unusedSimpArgs false
theorem wp_store_row1' {P : Program} {w : World} {o : Oper} {a : Act} {K : Act → World → Prop} {Q : Exit → Act → World → Prop} (ty : TypeId) (x y : Operand) (ho : o.op = .store ty x y) {f : Nat → Prop} {e : TypeId} {sz n : Nat} {v : Value} {xs : List Value} (hr : Row w f e sz v n xs) (g off : Nat) (u : Value)
    (hx : a.eval x = .pointer (some ⟨g, off, none⟩)) (hy : a.eval y = u) (hg : v.ownBlock = some g) (hfit : off < xs.length) (hi : (P.info? ty).map (·.size) = some 1) (h1 : u.oneCell' = true)
    (h : ∀ w', Hid (Row w' f e sz v n (xs.set off u)) → Hid (Mod (fun k => k = g) w w') → K (a.put o.dst undef) w') : o.wp P a w K Q := by
  obtain ⟨w', hrun, h2, h3⟩ := run_storeAt_row1 (P := P) hr ty g off u hg hfit hi h1
  unfold Oper.wp execOp
  simp only [ho, hx, hy, Sem.run_bind, Sem.run_pure, hrun, Result.andThen_ok]
  exact h _ (Lib.hid h2) (Lib.hid h3)
theorem less_any (x y : Int) (w : World) : Calls Tryz.prog 80 #[.int .u32 x, .int .u32 y] w fun e w' => e = .returned (.bool (decide (x < y))) ∧ w' = w := by
  have hnot : ∀ (x : Bool) (w : World), (Op.unary .not (.bool x)).run Tryz.prog w = .ok (.bool (!x)) w := fun _ _ => rfl
  go_enter Tryz.func80, Tryz.ntmps80
  go_wp2_with (go_at_call 93; go_in)
  go_ret
  exact ⟨rfl, rfl⟩
def ordU (l : List Int) : Prop := l.Pairwise (· ≤ ·)
theorem u32Sz : (Tryz.prog.info? 29).map (·.size) = some 1 := by kernel_rfl
theorem Row.getU {w : World} {f : Nat → Prop} {e : TypeId} {g n cp : Nat} {l s t : List Int} {x : Int} (h : Row w f e 1 (.slice (some ⟨g, 0, none⟩) n cp) n (l.map encU)) (hl : l = s ++ x :: t) (h0 : 0 < n) : w.cell? ⟨g, s.length, none⟩ = some (.int .u32 x) := by
  obtain ⟨ad, cap, e1, _, _, h3⟩ := h.form
  injection e1 with e2 e3 e4
  obtain ⟨g', e5, _, _, hc⟩ := h3 h0
  rw [← e2] at e5
  injection e5 with e6
  injection e6 with e7
  subst e7
  exact hc _ _ (by subst hl; simp)
/-- the inner loop, the number y at place j -/
structure InsJ (l : List Int) (f : Nat → Prop) (g n cp i : Nat) (w wr : World) (j : Nat) (s : List Int) (y : Int) (u rest : List Int) : Prop where
  len : s.length = j
  all : j + u.length = i
  ord : ordU (s ++ u)
  big : ∀ z ∈ u, y ≤ z
  perm : (s ++ y :: (u ++ rest)).Perm l
  row : Row wr f 29 1 (.slice (some ⟨g, 0, none⟩) n cp) n ((s ++ y :: (u ++ rest)).map encU)
  mod : Mod (fun k => k = g) w wr
/-- the outer loop -/
structure InsI (l : List Int) (f : Nat → Prop) (g n cp : Nat) (w wr : World) (i : Nat) (a b : List Int) : Prop where
  len : a.length = i
  ord : ordU a
  perm : (a ++ b).Perm l
  row : Row wr f 29 1 (.slice (some ⟨g, 0, none⟩) n cp) n ((a ++ b).map encU)
  mod : Mod (fun k => k = g) w wr
theorem InsJ.done {l : List Int} {f : Nat → Prop} {g n cp i j : Nat} {w wr : World} {s u rest : List Int} {y : Int} (h : InsJ l f g n cp i w wr j s y u rest) (hs : ∀ x ∈ s, x ≤ y) : InsI l f g n cp w wr (i + 1) (s ++ y :: u) rest := by
  have e : s ++ y :: u ++ rest = s ++ y :: (u ++ rest) := by simp
  refine ⟨by have := h.len; have := h.all; simp; omega, ?_, by rw [e]; exact h.perm, by rw [e]; exact h.row, h.mod⟩
  have h1 := List.pairwise_append.1 h.ord
  refine List.pairwise_append.2 ⟨h1.1, List.pairwise_cons.2 ⟨h.big, h1.2.1⟩, fun x hx z hz => ?_⟩
  rcases List.mem_cons.1 hz with rfl | hz
  · exact hs x hx
  · exact h1.2.2 x hx z hz
theorem ordU_last {s : List Int} {x y : Int} (h : ordU (s ++ [x])) (hxy : x ≤ y) : ∀ z ∈ s ++ [x], z ≤ y := fun z hz => by
  rcases List.mem_append.1 hz with hz | hz
  · exact Int.le_trans ((List.pairwise_append.1 h).2.2 z hz x List.mem_cons_self) hxy
  · rw [List.mem_singleton.1 hz]; exact hxy
theorem snoc_of {s : List Int} {k : Nat} (h : s.length = k + 1) : ∃ s' x, s = s' ++ [x] ∧ s'.length = k :=
  ⟨s.dropLast, s.getLast (by intro e; rw [e] at h; cases h), (List.dropLast_concat_getLast _).symm, by simp [h]⟩
theorem InsJ.swap {l : List Int} {f : Nat → Prop} {g n cp i k j : Nat} {w wr w2 : World} {s u rest : List Int} {x y : Int} (h : InsJ l f g n cp i w wr j (s ++ [x]) y u rest) (hj : j = k + 1) (hk : s.length = k) (hyx : y < x)
    (hr : Row w2 f 29 1 (.slice (some ⟨g, 0, none⟩) n cp) n ((((s ++ [x]) ++ y :: (u ++ rest)).map encU |>.set j (encU x)) |>.set k (encU y))) (hm : Mod (fun q => q = g) wr w2) : InsJ l f g n cp i w w2 k s y (x :: u) rest := by
  subst hj
  have e : ((((s ++ [x]) ++ y :: (u ++ rest)).map encU).set (k + 1) (encU x)).set k (encU y) = (s ++ y :: ((x :: u) ++ rest)).map encU := by
    subst hk
    simp [List.set_append_right]
  rw [e] at hr
  refine ⟨hk, by have := h.all; simp; omega, by have := h.ord; simpa [List.append_assoc] using this, ?_, ?_, hr, h.mod.trans hm fun q hq => .inl hq⟩
  · intro z hz
    rcases List.mem_cons.1 hz with rfl | hz
    · omega
    · exact h.big z hz
  · refine List.Perm.trans ?_ h.perm
    simp only [List.append_assoc, List.cons_append, List.nil_append]
    exact List.Perm.append_left s (List.Perm.swap x y _)
set_option maxRecDepth 100000 in
set_option maxHeartbeats 4000000 in
theorem ins_any (f : Nat → Prop) (l : List Int) (g n cp : Nat) (w : World) (h : Row w f 29 1 (.slice (some ⟨g, 0, none⟩) n cp) n (l.map encU)) (h1 : 1 ≤ n) (hn : n ≤ 12) :
    Calls Tryz.prog 74 #[.slice (some ⟨g, 0, none⟩) n cp, .int .i64 0, .int .i64 (n : Int)] w fun e w' => e = .returned (.tuple #[]) ∧ ∃ l', InsI l f g n cp w w' n l' [] := by
  have hln : l.length = n := by have := h.len; simpa using this
  have hcp : n ≤ cp ∧ cp ≤ maxLen := by
    obtain ⟨ad, cap, e1, h2, h3, _⟩ := h.form
    injection e1 with _ _ e4
    subst e4
    exact ⟨h2, h3⟩
  obtain ⟨hnc, hcm⟩ := hcp
  unfold maxLen at hcm
  obtain ⟨a0, b0, hab, ha0⟩ : ∃ (a0 : List Int) (b0 : List Int), l = a0 ++ b0 ∧ a0.length = 1 := ⟨l.take 1, l.drop 1, (List.take_append_drop 1 l).symm, by rw [List.length_take]; omega⟩
  have HI0 : Hid (InsI l f g n cp w w 1 a0 b0) := Lib.hid ⟨ha0, by
    match a0, ha0 with
    | [x], _ => exact List.pairwise_singleton _ _, by rw [← hab], by rw [← hab]; exact h, Mod.refl _ _⟩
  have HLN := Lib.hid hln
  clear h hab ha0 hln
  go_enter Tryz.func74, Tryz.ntmps74
  go_wp2_with fail
  go_loopw [6] (fun iv wr => ∃ i : Nat, i ≤ n ∧ 1 ≤ i ∧ iv = .int .i64 (i : Int) ∧ ∃ a b, InsI l f g n cp w wr i a b) (fun iv _ => n - (intOf iv).toNat)
  case atStart => exact ⟨1, h1, Nat.le_refl _, by first | rfl | go_num, a0, b0, HI0.out⟩
  case round =>
    clear HI0
    obtain ⟨i, hi, hi1, rfl, a, b, hI⟩ := hrel
    have HI := Lib.hid hI
    clear hI
    by_cases hlt : i < n
    · have hbl : ∃ y b', b = y :: b' := by
        cases b with
        | nil => have h1 := HI.out.perm.length_eq; have h2 := HI.out.len; have h3 := HLN.out; simp at h1; omega
        | cons y b' => exact ⟨y, b', rfl⟩
      obtain ⟨y0, b', rfl⟩ := hbl
      have HJ0 : Hid (InsJ l f g n cp i w wr i a y0 [] b') := Lib.hid ⟨HI.out.len, by simp, by rw [List.append_nil]; exact HI.out.ord, fun z hz => (by cases hz), by simpa using HI.out.perm, by simpa using HI.out.row, HI.out.mod⟩
      clear HI
      go_wp2_with fail
      go_loopw [7] (fun jv wk => ∃ j : Nat, j ≤ i ∧ jv = .int .i64 (j : Int) ∧ ∃ s y u rest, InsJ l f g n cp i w wk j s y u rest) (fun jv _ => (intOf jv).toNat)
      case atStart => exact ⟨i, Nat.le_refl _, rfl, _, _, _, _, HJ0.out⟩
      case round =>
        clear HJ0
        obtain ⟨j, hj, rfl, s, y, u, rest, hJ⟩ := hrel
        have HJ := Lib.hid hJ
        clear hJ
        rcases Nat.eq_zero_or_pos j with hj0 | hpos
        · subst hj0
          have hs : s = [] := List.eq_nil_of_length_eq_zero HJ.out.len
          subst hs
          have HE := Lib.hid (HJ.out.done fun x hx => by cases hx)
          go_wp2_with fail
          refine wp_region_plan [13] [(0, 0), (1, 0), (2, 0), (3, 0), (4, 0), (5, 0), (6, 0), (7, 1), (8, 0), (9, 0), (10, 0), (11, 0), (12, 1), (13, 3), (14, 0)] (fun _ : World => True) (by kernel_rfl) (by kernel_rfl) (fun d _ _ _ _ h => by cases d <;> exact h) ?_
          repeat (first | (refine plan_skip rfl rfl ?_; simp only [List.getElem_toArray, List.getElem_cons_succ, List.getElem_cons_zero, Act.put, List.setIfInBounds_toArray, List.set_cons_zero, List.set_cons_succ]) | (refine plan_pass2 rfl rfl ?_; simp only [List.getElem_toArray, List.getElem_cons_succ, List.getElem_cons_zero, Act.put, List.setIfInBounds_toArray, List.set_cons_zero, List.set_cons_succ]) | (refine plan_pass3 rfl rfl ?_; simp only [List.getElem_toArray, List.getElem_cons_succ, List.getElem_cons_zero, Act.put, List.setIfInBounds_toArray, List.set_cons_zero, List.set_cons_succ]) | (refine plan_take (v := ?_) rfl rfl ?_ ?_; rotate_left; (focus (intro w0; go_simp; try with_reducible rfl)); simp only [List.getElem_toArray, List.getElem_cons_succ, List.getElem_cons_zero, Act.put, List.setIfInBounds_toArray, List.set_cons_zero, List.set_cons_succ]) | (refine plan_held (v := ?_) rfl rfl trivial ?_ ?_; rotate_left; (focus (intro w0 hSw; (try dsimp only at hSw); go_split_ands; go_simp; try with_reducible rfl)); simp only [List.getElem_toArray, List.getElem_cons_succ, List.getElem_cons_zero, Act.put, List.setIfInBounds_toArray, List.set_cons_zero, List.set_cons_succ])  | (refine plan_skip1 rfl rfl trivial ?_; simp only [List.getElem_toArray, List.getElem_cons_succ, List.getElem_cons_zero, Act.put, List.setIfInBounds_toArray, List.set_cons_zero, List.set_cons_succ]))
          refine plan_nil ?_
          go_wp2
          go_roundw
          case rel => exact ⟨i + 1, by omega, by omega, by go_num, _, _, ⟨HE.out.len, HE.out.ord, HE.out.perm, HE.out.row, HE.out.mod.drew⟩⟩
          case measure => simp [intOf]; omega
        · obtain ⟨k, hjk⟩ : ∃ k, j = k + 1 := ⟨j - 1, by omega⟩
          obtain ⟨s', x, rfl, hk⟩ := snoc_of (k := k) (by rw [HJ.out.len, hjk])
          have cx := HJ.out.row.getU (s := s') (x := x) (t := y :: (u ++ rest)) (by simp) (by omega)
          have cy := HJ.out.row.getU (s := s' ++ [x]) (x := y) (t := u ++ rest) (by simp) (by omega)
          rw [hk] at cx
          rw [show (s' ++ [x]).length = j by simp [hk, hjk]] at cy
          have ek : IntKind.i64.wrap ((j : Int) - 1) = (k : Int) := by rw [show (j : Int) - 1 = (k : Int) by omega]; exact IntWalk.i64_in _ (by omega)
          have hd : decide ((0 : Int) < (j : Int)) = true := decide_eq_true (by omega)
          have hkn : j < n := by omega
          have HJK := Lib.hid hjk
          have hkn' : k < n := by omega
          have hS : wr.drew.cell? ⟨g, j, none⟩ = some (.int .u32 y) ∧ wr.drew.cell? ⟨g, k, none⟩ = some (.int .u32 x) := ⟨cy, cx⟩
          have HK := Lib.hid hk
          have HSS := Lib.hid hS
          clear cx cy hk hS hjk
          by_cases hyx : y < x
          · have hc : decide (y < x) = true := decide_eq_true hyx
            go_wp2_with fail
            refine wp_region_plan [13] [(0, 0), (1, 0), (2, 0), (3, 0), (4, 0), (5, 0), (6, 0), (7, 1), (8, 0), (9, 0), (10, 0), (11, 0), (12, 1), (13, 3), (14, 0)] (fun w' : World => w'.cell? ⟨g, j, none⟩ = some (.int .u32 y) ∧ w'.cell? ⟨g, k, none⟩ = some (.int .u32 x)) (by kernel_rfl) (by kernel_rfl) (fun d _ _ _ _ h => by cases d <;> exact h) ?_
            repeat (first | (refine plan_skip rfl rfl ?_; simp only [List.getElem_toArray, List.getElem_cons_succ, List.getElem_cons_zero, Act.put, List.setIfInBounds_toArray, List.set_cons_zero, List.set_cons_succ]) | (refine plan_pass2 rfl rfl ?_; simp only [List.getElem_toArray, List.getElem_cons_succ, List.getElem_cons_zero, Act.put, List.setIfInBounds_toArray, List.set_cons_zero, List.set_cons_succ]) | (refine plan_pass3 rfl rfl ?_; simp only [List.getElem_toArray, List.getElem_cons_succ, List.getElem_cons_zero, Act.put, List.setIfInBounds_toArray, List.set_cons_zero, List.set_cons_succ]) | (refine plan_take (v := ?_) rfl rfl ?_ ?_; rotate_left; (focus (intro w0; go_simp; try with_reducible rfl)); simp only [List.getElem_toArray, List.getElem_cons_succ, List.getElem_cons_zero, Act.put, List.setIfInBounds_toArray, List.set_cons_zero, List.set_cons_succ]) | (refine plan_held (v := ?_) rfl rfl HSS.out ?_ ?_; rotate_left; (focus (intro w0 hSw; (try dsimp only at hSw); go_split_ands; go_simp; try with_reducible rfl)); simp only [List.getElem_toArray, List.getElem_cons_succ, List.getElem_cons_zero, Act.put, List.setIfInBounds_toArray, List.set_cons_zero, List.set_cons_succ])  | (refine plan_skip1 rfl rfl HSS.out ?_; simp only [List.getElem_toArray, List.getElem_cons_succ, List.getElem_cons_zero, Act.put, List.setIfInBounds_toArray, List.set_cons_zero, List.set_cons_succ]))
            (refine plan_end rfl rfl rfl fun K hK => ?_; (try simp only [List.getElem_toArray, List.getElem_cons_succ, List.getElem_cons_zero]))
            go_simp
            refine (less_any y x _).mono ?_; rintro e w2 ⟨rfl, rfl⟩
            rw [hc]
            refine hK _ _ ?_
            clear hK K
            try simp only [List.getElem_toArray, List.getElem_cons_succ, List.getElem_cons_zero, Act.put, List.setIfInBounds_toArray, List.set_cons_zero, List.set_cons_succ]
            repeat (first | (refine plan_skip rfl rfl ?_; simp only [List.getElem_toArray, List.getElem_cons_succ, List.getElem_cons_zero, Act.put, List.setIfInBounds_toArray, List.set_cons_zero, List.set_cons_succ]) | (refine plan_pass2 rfl rfl ?_; simp only [List.getElem_toArray, List.getElem_cons_succ, List.getElem_cons_zero, Act.put, List.setIfInBounds_toArray, List.set_cons_zero, List.set_cons_succ]) | (refine plan_pass3 rfl rfl ?_; simp only [List.getElem_toArray, List.getElem_cons_succ, List.getElem_cons_zero, Act.put, List.setIfInBounds_toArray, List.set_cons_zero, List.set_cons_succ]) | (refine plan_take (v := ?_) rfl rfl ?_ ?_; rotate_left; (focus (intro w0; go_simp; try with_reducible rfl)); simp only [List.getElem_toArray, List.getElem_cons_succ, List.getElem_cons_zero, Act.put, List.setIfInBounds_toArray, List.set_cons_zero, List.set_cons_succ]) | (refine plan_held (v := ?_) rfl rfl HSS.out ?_ ?_; rotate_left; (focus (intro w0 hSw; (try dsimp only at hSw); go_split_ands; go_simp; try with_reducible rfl)); simp only [List.getElem_toArray, List.getElem_cons_succ, List.getElem_cons_zero, Act.put, List.setIfInBounds_toArray, List.set_cons_zero, List.set_cons_succ])  | (refine plan_skip1 rfl rfl HSS.out ?_; simp only [List.getElem_toArray, List.getElem_cons_succ, List.getElem_cons_zero, Act.put, List.setIfInBounds_toArray, List.set_cons_zero, List.set_cons_succ]))
            refine plan_nil ?_
            go_wp2_with fail
            have HS2 : Hid (wr.drew.drew.cell? ⟨g, j, none⟩ = some (.int .u32 y) ∧ wr.drew.drew.cell? ⟨g, k, none⟩ = some (.int .u32 x)) := HSS
            have HR2 : Hid (Row wr.drew.drew f 29 1 (.slice (some ⟨g, 0, none⟩) n cp) n ((s' ++ [x] ++ y :: (u ++ rest)).map encU)) := Lib.hid HJ.out.row
            refine wp_region_plan [15, 17] [(0, 0), (1, 0), (2, 0), (3, 0), (4, 0), (5, 0), (6, 0), (7, 0), (8, 0), (9, 1), (10, 0), (11, 0), (12, 0), (13, 1), (14, 0), (15, 3), (16, 0), (17, 3)] (fun w' : World => w'.cell? ⟨g, j, none⟩ = some (.int .u32 y) ∧ w'.cell? ⟨g, k, none⟩ = some (.int .u32 x)) (by kernel_rfl) (by kernel_rfl) (fun d _ _ _ _ h => by cases d <;> exact h) ?_
            repeat (first | (refine plan_skip rfl rfl ?_; simp only [List.getElem_toArray, List.getElem_cons_succ, List.getElem_cons_zero, Act.put, List.setIfInBounds_toArray, List.set_cons_zero, List.set_cons_succ]) | (refine plan_pass2 rfl rfl ?_; simp only [List.getElem_toArray, List.getElem_cons_succ, List.getElem_cons_zero, Act.put, List.setIfInBounds_toArray, List.set_cons_zero, List.set_cons_succ]) | (refine plan_pass3 rfl rfl ?_; simp only [List.getElem_toArray, List.getElem_cons_succ, List.getElem_cons_zero, Act.put, List.setIfInBounds_toArray, List.set_cons_zero, List.set_cons_succ]) | (refine plan_take (v := ?_) rfl rfl ?_ ?_; rotate_left; (focus (intro w0; go_simp; try with_reducible rfl)); simp only [List.getElem_toArray, List.getElem_cons_succ, List.getElem_cons_zero, Act.put, List.setIfInBounds_toArray, List.set_cons_zero, List.set_cons_succ]) | (refine plan_held (v := ?_) rfl rfl HS2.out ?_ ?_; rotate_left; (focus (intro w0 hSw; (try dsimp only at hSw); go_split_ands; go_simp; try with_reducible rfl)); simp only [List.getElem_toArray, List.getElem_cons_succ, List.getElem_cons_zero, Act.put, List.setIfInBounds_toArray, List.set_cons_zero, List.set_cons_succ])  | (refine plan_skip1 rfl rfl HS2.out ?_; simp only [List.getElem_toArray, List.getElem_cons_succ, List.getElem_cons_zero, Act.put, List.setIfInBounds_toArray, List.set_cons_zero, List.set_cons_succ]))
            (refine plan_end rfl rfl rfl fun K hK => ?_; (try simp only [List.getElem_toArray, List.getElem_cons_succ, List.getElem_cons_zero]))
            refine wp_store_row1' _ _ _ rfl HR2.out g j (.int .u32 x) rfl rfl rfl (by have := HR2.out.len; omega) u32Sz rfl ?_
            intro w5 HR5 HM5
            refine hK _ _ ?_
            clear hK K
            try simp only [List.getElem_toArray, List.getElem_cons_succ, List.getElem_cons_zero, Act.put, List.setIfInBounds_toArray, List.set_cons_zero, List.set_cons_succ]
            repeat (first | (refine plan_skip rfl rfl ?_; simp only [List.getElem_toArray, List.getElem_cons_succ, List.getElem_cons_zero, Act.put, List.setIfInBounds_toArray, List.set_cons_zero, List.set_cons_succ]) | (refine plan_pass2 rfl rfl ?_; simp only [List.getElem_toArray, List.getElem_cons_succ, List.getElem_cons_zero, Act.put, List.setIfInBounds_toArray, List.set_cons_zero, List.set_cons_succ]) | (refine plan_pass3 rfl rfl ?_; simp only [List.getElem_toArray, List.getElem_cons_succ, List.getElem_cons_zero, Act.put, List.setIfInBounds_toArray, List.set_cons_zero, List.set_cons_succ]) | (refine plan_take (v := ?_) rfl rfl ?_ ?_; rotate_left; (focus (intro w0; go_simp; try with_reducible rfl)); simp only [List.getElem_toArray, List.getElem_cons_succ, List.getElem_cons_zero, Act.put, List.setIfInBounds_toArray, List.set_cons_zero, List.set_cons_succ]) | fail )
            (refine plan_end rfl rfl rfl fun K hK => ?_; (try simp only [List.getElem_toArray, List.getElem_cons_succ, List.getElem_cons_zero]))
            refine wp_store_row1' _ _ _ rfl HR5.out g k (.int .u32 y) rfl rfl rfl (by have := HR5.out.len; omega) u32Sz rfl ?_
            intro w6 HR6 HM6
            have HJ6 := Lib.hid (HJ.out.swap HJK.out HK.out hyx HR6.out ((((Mod.refl (fun q => q = g) wr).drew.drew).trans HM5.out fun _ hq => .inl hq).trans HM6.out fun _ hq => .inl hq))
            refine hK _ _ ?_
            clear hK K HR5 HM5 HR6 HM6 HS2 HR2 HSS hc
            try simp only [List.getElem_toArray, List.getElem_cons_succ, List.getElem_cons_zero, Act.put, List.setIfInBounds_toArray, List.set_cons_zero, List.set_cons_succ]
            repeat (first | (refine plan_skip rfl rfl ?_; simp only [List.getElem_toArray, List.getElem_cons_succ, List.getElem_cons_zero, Act.put, List.setIfInBounds_toArray, List.set_cons_zero, List.set_cons_succ]) | (refine plan_pass2 rfl rfl ?_; simp only [List.getElem_toArray, List.getElem_cons_succ, List.getElem_cons_zero, Act.put, List.setIfInBounds_toArray, List.set_cons_zero, List.set_cons_succ]) | (refine plan_pass3 rfl rfl ?_; simp only [List.getElem_toArray, List.getElem_cons_succ, List.getElem_cons_zero, Act.put, List.setIfInBounds_toArray, List.set_cons_zero, List.set_cons_succ]) | (refine plan_take (v := ?_) rfl rfl ?_ ?_; rotate_left; (focus (intro w0; go_simp; try with_reducible rfl)); simp only [List.getElem_toArray, List.getElem_cons_succ, List.getElem_cons_zero, Act.put, List.setIfInBounds_toArray, List.set_cons_zero, List.set_cons_succ]) | fail )
            refine plan_nil ?_
            go_wp2
            go_roundw
            case rel => exact ⟨k, by have := HJK.out; omega, by go_num, _, _, _, _, HJ6.out⟩
            case measure => simp [intOf]; have := HJK.out; omega
          · have hc : decide (y < x) = false := decide_eq_false hyx
            have HE := Lib.hid (HJ.out.done (ordU_last (s := s') (x := x) (List.pairwise_append.1 HJ.out.ord).1 (by omega)))
            go_wp2_with fail
            refine wp_region_plan [13] [(0, 0), (1, 0), (2, 0), (3, 0), (4, 0), (5, 0), (6, 0), (7, 1), (8, 0), (9, 0), (10, 0), (11, 0), (12, 1), (13, 3), (14, 0)] (fun w' : World => w'.cell? ⟨g, j, none⟩ = some (.int .u32 y) ∧ w'.cell? ⟨g, k, none⟩ = some (.int .u32 x)) (by kernel_rfl) (by kernel_rfl) (fun d _ _ _ _ h => by cases d <;> exact h) ?_
            repeat (first | (refine plan_skip rfl rfl ?_; simp only [List.getElem_toArray, List.getElem_cons_succ, List.getElem_cons_zero, Act.put, List.setIfInBounds_toArray, List.set_cons_zero, List.set_cons_succ]) | (refine plan_pass2 rfl rfl ?_; simp only [List.getElem_toArray, List.getElem_cons_succ, List.getElem_cons_zero, Act.put, List.setIfInBounds_toArray, List.set_cons_zero, List.set_cons_succ]) | (refine plan_pass3 rfl rfl ?_; simp only [List.getElem_toArray, List.getElem_cons_succ, List.getElem_cons_zero, Act.put, List.setIfInBounds_toArray, List.set_cons_zero, List.set_cons_succ]) | (refine plan_take (v := ?_) rfl rfl ?_ ?_; rotate_left; (focus (intro w0; go_simp; try with_reducible rfl)); simp only [List.getElem_toArray, List.getElem_cons_succ, List.getElem_cons_zero, Act.put, List.setIfInBounds_toArray, List.set_cons_zero, List.set_cons_succ]) | (refine plan_held (v := ?_) rfl rfl HSS.out ?_ ?_; rotate_left; (focus (intro w0 hSw; (try dsimp only at hSw); go_split_ands; go_simp; try with_reducible rfl)); simp only [List.getElem_toArray, List.getElem_cons_succ, List.getElem_cons_zero, Act.put, List.setIfInBounds_toArray, List.set_cons_zero, List.set_cons_succ])  | (refine plan_skip1 rfl rfl HSS.out ?_; simp only [List.getElem_toArray, List.getElem_cons_succ, List.getElem_cons_zero, Act.put, List.setIfInBounds_toArray, List.set_cons_zero, List.set_cons_succ]))
            (refine plan_end rfl rfl rfl fun K hK => ?_; (try simp only [List.getElem_toArray, List.getElem_cons_succ, List.getElem_cons_zero]))
            go_simp
            refine (less_any y x _).mono ?_; rintro e w2 ⟨rfl, rfl⟩
            rw [hc]
            refine hK _ _ ?_
            clear hK K
            try simp only [List.getElem_toArray, List.getElem_cons_succ, List.getElem_cons_zero, Act.put, List.setIfInBounds_toArray, List.set_cons_zero, List.set_cons_succ]
            repeat (first | (refine plan_skip rfl rfl ?_; simp only [List.getElem_toArray, List.getElem_cons_succ, List.getElem_cons_zero, Act.put, List.setIfInBounds_toArray, List.set_cons_zero, List.set_cons_succ]) | (refine plan_pass2 rfl rfl ?_; simp only [List.getElem_toArray, List.getElem_cons_succ, List.getElem_cons_zero, Act.put, List.setIfInBounds_toArray, List.set_cons_zero, List.set_cons_succ]) | (refine plan_pass3 rfl rfl ?_; simp only [List.getElem_toArray, List.getElem_cons_succ, List.getElem_cons_zero, Act.put, List.setIfInBounds_toArray, List.set_cons_zero, List.set_cons_succ]) | (refine plan_take (v := ?_) rfl rfl ?_ ?_; rotate_left; (focus (intro w0; go_simp; try with_reducible rfl)); simp only [List.getElem_toArray, List.getElem_cons_succ, List.getElem_cons_zero, Act.put, List.setIfInBounds_toArray, List.set_cons_zero, List.set_cons_succ]) | (refine plan_held (v := ?_) rfl rfl HSS.out ?_ ?_; rotate_left; (focus (intro w0 hSw; (try dsimp only at hSw); go_split_ands; go_simp; try with_reducible rfl)); simp only [List.getElem_toArray, List.getElem_cons_succ, List.getElem_cons_zero, Act.put, List.setIfInBounds_toArray, List.set_cons_zero, List.set_cons_succ])  | (refine plan_skip1 rfl rfl HSS.out ?_; simp only [List.getElem_toArray, List.getElem_cons_succ, List.getElem_cons_zero, Act.put, List.setIfInBounds_toArray, List.set_cons_zero, List.set_cons_succ]))
            refine plan_nil ?_
            go_wp2
            go_roundw
            case rel => exact ⟨i + 1, by omega, by omega, by go_num, _, _, ⟨HE.out.len, HE.out.ord, HE.out.perm, HE.out.row, HE.out.mod.drew⟩⟩
            case measure => simp [intOf]; omega
    · obtain rfl : i = n := by omega
      obtain rfl : b = [] := by
        have h1 := HI.out.perm.length_eq
        have h2 := HI.out.len
        have h3 := HLN.out
        exact List.eq_nil_of_length_eq_zero (by simp at h1; omega)
      go_wp2
      go_end0
      exact ⟨rfl, a, HI.out⟩
end Go.Proofs.YtegjamjognpdkaaGreat
