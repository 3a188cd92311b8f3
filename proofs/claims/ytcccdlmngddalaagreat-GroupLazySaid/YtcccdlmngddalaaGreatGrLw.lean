/- GroupLazy: the walk. -/
import Derived.Test.YtcccdlmngddalaaGreatGrSg
import Derived.Test.YtcccdlmngddalaaGreatGrV
import Derived.Test.YtcccdlmngddalaaGreatGrEp
import Derived.Test.YtcccdlmngddalaaGreatOpenAg
import Derived.Maps.Ext
import Derived.Laws.IdiomRangeMap
import Derived.Deep.LoopGhost
import Derived.Test.YtcccdlmngddalaaGreatGrG
import Derived.Test.YtcccdlmngddalaaGreatLives17
namespace Go.Proofs.YtcccdlmngddalaaGreat
open Go.RowKit Go.Maps Go.Sort Go.Shelf Go.Lib
set_option linter.unusedVariables false
set_option linter.unusedSimpArgs false
theorem isNaNs (x : ByteArray) (w : World) : Calls Tryz.prog 153 #[.string x] w fun e w' => e = .returned (.bool false) ∧ w' = w := by
  go_enter Tryz.func153, Tryz.ntmps153
  go_wp2
  go_ret
  exact ⟨by simp, rfl⟩
theorem cmpS_ok (x y : ByteArray) (w : World) : Calls Tryz.prog 137 #[.string x, .string y] w fun e w' => (∃ r : Int, e = .returned (.int .i64 r)) ∧ w' = w := by
  obtain ⟨bo, hgt⟩ : ∃ bo : Bool, ∀ w', (binOp .gtr 9 (.string x) (.string y)).run Tryz.prog w' = .ok (.bool bo) w' := ⟨!(Op.bytesLess x.toList y.toList || x.toList == y.toList), fun w' => by
    rw [show binOp .gtr 9 (.string x) (.string y) = pure (.bool !(Op.bytesLess x.toList y.toList || x.toList == y.toList)) by simp [binOp, Op.stringOp]]
    rfl⟩
  go_enter Tryz.func137, Tryz.ntmps137
  go_wp2_with fail
  refine (isNaNs _ _).mono ?_; rintro e w1 ⟨rfl, rfl⟩
  go_wp2_with fail
  refine (isNaNs _ _).mono ?_; rintro e w2 ⟨rfl, rfl⟩
  go_wp2
  all_goals
    go_ret
    exact ⟨⟨_, rfl⟩, rfl⟩
theorem or2_ok (b : Nat) (x y : Int) (w : World) (h0 : w.cell? ⟨b, 0, none⟩ = some (.int .i64 x)) (h1 : w.cell? ⟨b, 1, none⟩ = some (.int .i64 y)) :
    Calls Tryz.prog 135 #[.slice (some ⟨b, 0, none⟩) 2 2] w fun e w' => (∃ r : Int, e = .returned (.int .i64 r)) ∧ w' = w := by
  go_enter Tryz.func135, Tryz.ntmps135
  go_wp2
  go_loop [8] (fun i => ∃ j : Nat, j ≤ 2 ∧ i = .int .i64 j) (fun i => 2 - (intOf i).toNat)
  case atStart => exact ⟨0, by omega, rfl⟩
  case round =>
    obtain ⟨j, hj, rfl⟩ := hrel
    rcases (show j = 0 ∨ j = 1 ∨ j = 2 by omega) with rfl | rfl | rfl
    · by_cases hx : x = 0
      · have HX := Lib.hid hx
        go_wp2
        go_round
        case rel => exact ⟨1, by omega, by go_num⟩
        case measure => simp [intOf]
      · go_wp2
        go_ret
        exact ⟨⟨_, rfl⟩, rfl⟩
    · by_cases hx : y = 0
      · have HX := Lib.hid hx
        go_wp2
        go_round
        case rel => exact ⟨2, by omega, by go_num⟩
        case measure => simp [intOf]
      · go_wp2
        go_ret
        exact ⟨⟨_, rfl⟩, rfl⟩
    · go_wp2
      go_ret
      exact ⟨⟨_, rfl⟩, rfl⟩
theorem mget_int (k : List UInt8) : ∀ L : List (Ad × Int), ∃ n : Int, (mgetS (enm L) k).getD (.int .i64 0) = .int .i64 n := by
  intro L
  cases h : mgetS (enm L) k with
  | none => exact ⟨0, rfl⟩
  | some v =>
    unfold mgetS at h
    obtain ⟨q, hq, rfl⟩ := Option.map_eq_some_iff.1 h
    obtain ⟨p, _, rfl⟩ := List.mem_map.1 (List.mem_of_find?_eq_some hq)
    exact ⟨p.2, rfl⟩
set_option maxRecDepth 100000 in
set_option maxHeartbeats 1000000 in
theorem before_ok {w : World} {c b : Nat} {T : Ad → Option Int} {L : List (Ad × Int)} (h : ClkAt w c b T L) (x y : List UInt8) :
    Calls Tryz.prog 102 #[.pointer (some ⟨c, 0, none⟩), encStr x, encStr y] w fun e w' => (∃ r : Int, e = .returned (.int .i64 r)) ∧ Mod (fun _ => False) w w' := by
  obtain ⟨n1, hn1⟩ := mget_int x L
  obtain ⟨n2, hn2⟩ := mget_int y L
  have hS : w.drew.cell? ⟨c, 0, none⟩ = some (.map (some b)) ∧ Ms w.drew b (enm L) := ⟨h.blk.cell rfl, h.mp.keep (Mod.refl (fun _ => False) w).drew fun f => f⟩
  have HL1 : Hid (∀ {o : Oper} {ev : Operand → Value} {x' i : Operand}, o.op = .lookup 130 x' i false → ev x' = .map (some b) → ev i = encStr x → ∀ w', Ms w' b (enm L) → (execOp ev o).run Tryz.prog w' = .ok (.value (.int .i64 n1)) w') := Lib.hid fun ho hx' hi w' hm => by
    have := exec_lookup_ms (P := Tryz.prog) Tryz.underlying130 Tryz.underlying9 zeroI ho hx' hi hm
    rw [if_neg (by simp), hn1] at this
    exact this
  have HL2 : Hid (∀ {o : Oper} {ev : Operand → Value} {x' i : Operand}, o.op = .lookup 130 x' i false → ev x' = .map (some b) → ev i = encStr y → ∀ w', Ms w' b (enm L) → (execOp ev o).run Tryz.prog w' = .ok (.value (.int .i64 n2)) w') := Lib.hid fun ho hx' hi w' hm => by
    have := exec_lookup_ms (P := Tryz.prog) Tryz.underlying130 Tryz.underlying9 zeroI ho hx' hi hm
    rw [if_neg (by simp), hn2] at this
    exact this
  clear hn1 hn2 h
  obtain ⟨sx, hsx⟩ : ∃ sx, encStr x = .string sx := ⟨_, rfl⟩
  obtain ⟨sy, hsy⟩ : ∃ sy, encStr y = .string sy := ⟨_, rfl⟩
  rw [hsx] at HL1 ⊢
  rw [hsy] at HL2 ⊢
  clear hsx hsy
  have HSH := Lib.hid hS
  clear hS
  have hS := HSH.out
  go_enter Tryz.func102, Tryz.ntmps102
  go_wp2_with fail
  refine wp_region_plan [] [(0, 0), (1, 0), (2, 0), (3, 1), (4, 0), (5, 1), (6, 0), (7, 0), (8, 0), (9, 1), (10, 0), (11, 1), (13, 0), (14, 0), (12, 2), (15, 2), (16, 2), (17, 2), (18, 0)] (fun w' : World => w'.cell? ⟨c, 0, none⟩ = some (.map (some b)) ∧ Ms w' b (enm L)) (by kernel_rfl) (by kernel_rfl) (fun d v c a w h => by first | (cases d <;> exact h) | exact HP d v c a w h) ?_
  repeat ((first | refine plan_skip rfl rfl ?_ | refine plan_pass2 rfl rfl ?_ | refine plan_pass3 rfl rfl ?_ | (refine plan_take (v := ?_) rfl rfl ?_ ?_; rotate_left; focus (intro w0; go_simp; try with_reducible rfl)) | (refine plan_held (v := ?_) rfl rfl hS ?_ ?_; rotate_left; focus (intro w0 hSw; (try dsimp only at hSw); go_split_ands; go_simp; try with_reducible rfl)) | refine plan_skip1 rfl rfl hS ?_); simp only [List.getElem_toArray, List.getElem_cons_succ, List.getElem_cons_zero, Act.put, List.setIfInBounds_toArray, List.set_cons_zero, List.set_cons_succ])
  (refine plan_held (v := .int .i64 n1) rfl rfl hS (fun w0 h0 => HL1.out rfl rfl rfl w0 h0.2) ?_; try simp only [List.getElem_toArray, List.getElem_cons_succ, List.getElem_cons_zero, Act.put, List.setIfInBounds_toArray, List.set_cons_zero, List.set_cons_succ])
  repeat ((first | refine plan_skip rfl rfl ?_ | refine plan_pass2 rfl rfl ?_ | refine plan_pass3 rfl rfl ?_ | (refine plan_take (v := ?_) rfl rfl ?_ ?_; rotate_left; focus (intro w0; go_simp; try with_reducible rfl)) | (refine plan_held (v := ?_) rfl rfl hS ?_ ?_; rotate_left; focus (intro w0 hSw; (try dsimp only at hSw); go_split_ands; go_simp; try with_reducible rfl)) | refine plan_skip1 rfl rfl hS ?_); simp only [List.getElem_toArray, List.getElem_cons_succ, List.getElem_cons_zero, Act.put, List.setIfInBounds_toArray, List.set_cons_zero, List.set_cons_succ])
  (refine plan_held (v := .int .i64 n2) rfl rfl hS (fun w0 h0 => HL2.out rfl rfl rfl w0 h0.2) ?_; try simp only [List.getElem_toArray, List.getElem_cons_succ, List.getElem_cons_zero, Act.put, List.setIfInBounds_toArray, List.set_cons_zero, List.set_cons_succ])
  repeat ((first | refine plan_skip rfl rfl ?_ | refine plan_pass2 rfl rfl ?_ | refine plan_pass3 rfl rfl ?_ | (refine plan_take (v := ?_) rfl rfl ?_ ?_; rotate_left; focus (intro w0; go_simp; try with_reducible rfl)) | (refine plan_held (v := ?_) rfl rfl hS ?_ ?_; rotate_left; focus (intro w0 hSw; (try dsimp only at hSw); go_split_ands; go_simp; try with_reducible rfl)) | refine plan_skip1 rfl rfl hS ?_); simp only [List.getElem_toArray, List.getElem_cons_succ, List.getElem_cons_zero, Act.put, List.setIfInBounds_toArray, List.set_cons_zero, List.set_cons_succ])
  (refine plan_do rfl rfl fun K hK => ?_; try simp only [List.getElem_toArray, List.getElem_cons_succ, List.getElem_cons_zero])
  go_simp
  refine (cmpI_any _ _ _).mono ?_; rintro e W1 ⟨rfl, rfl⟩
  refine hK _ _ hS ?_
  clear hK K
  try simp only [List.getElem_toArray, List.getElem_cons_succ, List.getElem_cons_zero, Act.put, List.setIfInBounds_toArray, List.set_cons_zero, List.set_cons_succ]
  (refine plan_do rfl rfl fun K hK => ?_; try simp only [List.getElem_toArray, List.getElem_cons_succ, List.getElem_cons_zero])
  go_simp
  refine (cmpS_ok _ _ _).mono ?_; rintro e W1 ⟨⟨r, rfl⟩, rfl⟩
  refine hK _ _ hS ?_
  clear hK K
  try simp only [List.getElem_toArray, List.getElem_cons_succ, List.getElem_cons_zero, Act.put, List.setIfInBounds_toArray, List.set_cons_zero, List.set_cons_succ]
  have HN := Lib.hid (Blk.new w.drew 3 [.int .i64 (cmpI n1 n2), .int .i64 r])
  have hS2 : (w.drew.alloc (.cells #[.int .i64 (cmpI n1 n2), .int .i64 r] 3 (0, 0))).cell? ⟨c, 0, none⟩ = some (.map (some b)) ∧ Ms (w.drew.alloc (.cells #[.int .i64 (cmpI n1 n2), .int .i64 r] 3 (0, 0))) b (enm L) := ⟨((Mod.refl (fun _ => False) _).alloc _).cell (fun f => f) hS.1, hS.2.keep ((Mod.refl (fun _ => False) _).alloc _) fun f => f⟩
  (refine plan_do rfl rfl fun K hK => ?_; (try simp only [List.getElem_toArray, List.getElem_cons_succ, List.getElem_cons_zero]); go_simp; refine hK _ _ hS2 ?_; clear hK K; try simp only [List.getElem_toArray, List.getElem_cons_succ, List.getElem_cons_zero, Act.put, List.setIfInBounds_toArray, List.set_cons_zero, List.set_cons_succ])
  (refine plan_do rfl rfl fun K hK => ?_; try simp only [List.getElem_toArray, List.getElem_cons_succ, List.getElem_cons_zero])
  go_simp
  refine (or2_ok _ _ _ _ (HN.out.cell rfl) (HN.out.cell rfl)).mono ?_; rintro e W2 ⟨⟨r2, rfl⟩, rfl⟩
  refine hK _ _ hS2 ?_
  clear hK K
  try simp only [List.getElem_toArray, List.getElem_cons_succ, List.getElem_cons_zero, Act.put, List.setIfInBounds_toArray, List.set_cons_zero, List.set_cons_succ]
  repeat ((first | refine plan_skip rfl rfl ?_ | refine plan_pass2 rfl rfl ?_ | refine plan_pass3 rfl rfl ?_ | (refine plan_take (v := ?_) rfl rfl ?_ ?_; rotate_left; focus (intro w0; go_simp; try with_reducible rfl)) | (refine plan_held (v := ?_) rfl rfl hS2 ?_ ?_; rotate_left; focus (intro w0 hSw; (try dsimp only at hSw); go_split_ands; go_simp; try with_reducible rfl)) | refine plan_skip1 rfl rfl hS2 ?_); simp only [List.getElem_toArray, List.getElem_cons_succ, List.getElem_cons_zero, Act.put, List.setIfInBounds_toArray, List.set_cons_zero, List.set_cons_succ])
  refine plan_nil ?_
  go_wp2
  go_ret
  exact ⟨⟨_, rfl⟩, ((Mod.refl (fun _ => False) w).drew.alloc _)⟩
theorem perm_unmap {α β : Type} (f : α → β) {l m : List β} (h : l.Perm m) : ∀ ks : List α, ks.map f = m → ∃ ks' : List α, ks'.Perm ks ∧ ks'.map f = l := by
  induction h with
  | nil => intro ks hk; exact ⟨ks, .refl _, hk⟩
  | @cons a l m _ ih =>
    intro ks hk
    cases ks with
    | nil => simp at hk
    | cons k ks =>
      simp only [List.map_cons, List.cons.injEq] at hk
      obtain ⟨ks', h1, h2⟩ := ih ks hk.2
      exact ⟨k :: ks', h1.cons k, by rw [List.map_cons, h2, hk.1]⟩
  | swap a a' l =>
    intro ks hk
    match ks, hk with
    | k :: k' :: ks, hk =>
      simp only [List.map_cons, List.cons.injEq] at hk
      exact ⟨k' :: k :: ks, .swap _ _ _, by simp [hk.1, hk.2.1, hk.2.2]⟩
    | [_], hk => simp at hk
    | [], hk => simp at hk
  | trans _ _ ih1 ih2 =>
    intro ks hk
    obtain ⟨k2, h1, h2⟩ := ih2 ks hk
    obtain ⟨k3, h3, h4⟩ := ih1 k2 h2
    exact ⟨k3, h3.trans h1, h4⟩
set_option maxRecDepth 100000 in
set_option maxHeartbeats 1000000 in
theorem srfS {c g n cap : Nat} {ss0 : List ByteArray} {w0 : World} (HC : Hid (SCx c g n cap ss0 w0)) {W : World} (hS : Srd g n cap ss0 w0 W) :
    Calls Tryz.prog 146 #[.slice (some ⟨g, 0, none⟩) n cap, .func (.func 102) #[.pointer (some ⟨c, 0, none⟩)] #[]] W fun e W' => e = .returned (.tuple #[]) ∧ Srd g n cap ss0 w0 W' := by
  have hn4 := HC.out.n4
  have un : IntKind.u64.wrap (n : Int) = (n : Int) := IntWalk.u64_in _ (by omega)
  have HS := Lib.hid hS
  have HLen : Hid (∀ w, Calls Tryz.prog 144 #[.int .u64 (n : Int)] w fun e w' => e = .returned (.int .i64 (Lib.bitLen (n : Int).toNat)) ∧ w' = w) := Lib.hid fun w => Any.bits_Len (SlLaysF0.n15.bits (P := Tryz.prog) (ρ := Tryz.sortFS_ren) { Tryz.sortFSx with }) (n : Int) w (by omega) (by omega)
  have HBL : Hid (Lib.bitLen (n : Int).toNat ≤ 64) := Lib.hid (Lib.bitLen_le _ 64 (by omega) (by omega))
  clear hS
  go_enter Tryz.func146, Tryz.ntmps146
  go_wp2_with fail
  refine (HLen.out _).mono ?_
  obtain ⟨l, hl⟩ : ∃ l, l = Lib.bitLen (n : Int).toNat := ⟨_, rfl⟩
  rw [← hl] at HBL ⊢
  rintro e w1 ⟨rfl, rfl⟩
  have HP := Lib.hid (pdqS HC (n + 1) _ 0 n l HS.out (Nat.zero_le _) (Nat.le_refl _) (by omega) HBL.out)
  rw [Int.ofNat_zero] at HP
  clear hl HLen
  go_wp2_with fail
  refine HP.out.mono ?_
  rintro e w2 ⟨rfl, hs2⟩
  have HS2 := Lib.hid hs2
  clear hs2
  go_wp2
  go_end0
  exact ⟨rfl, HS2.out⟩
theorem sortOk : SortOk 49 := by
  intro w c b T L f v ks hC hR h0 hN hf
  have hR' := hR
  unfold RowS at hR
  obtain ⟨a, cap, rfl, hnc, hcm, hg⟩ := Row.form hR
  obtain ⟨g, rfl, hfg, hlt, hc⟩ := hg h0
  have hgb := hf g hfg
  have hmap : (ks.map fun p => encStr p.1.kk) = (ks.map fun p => (⟨p.1.kk.toArray⟩ : ByteArray)).map Value.string := by rw [List.map_map]; rfl
  have hS : Srd g ks.length cap (ks.map fun p => (⟨p.1.kk.toArray⟩ : ByteArray)) w w := ⟨_, .refl _, by unfold SRow; rw [← hmap]; exact hR.mono fun _ _ => trivial, Mod.refl _ _⟩
  have HC : Hid (SCx c g ks.length cap (ks.map fun p => (⟨p.1.kk.toArray⟩ : ByteArray)) w) := Lib.hid ⟨hN, fun W x y hm hx hy => by
    obtain ⟨p, _, rfl⟩ := List.mem_map.1 hx
    obtain ⟨q, _, rfl⟩ := List.mem_map.1 hy
    exact before_ok (hC.keep hm (fun e => hgb.2 e.symm) fun e => hgb.1 e.symm) p.1.kk q.1.kk⟩
  refine (srfS HC hS).mono ?_
  rintro e w' ⟨rfl, ss, h1, h2, h3⟩
  obtain ⟨ks', h4, h5⟩ := perm_unmap (fun p : Ad × Int => (⟨p.1.kk.toArray⟩ : ByteArray)) h1 ks rfl
  refine ⟨rfl, ks', h4, ?_, h3.mono fun k hk => .inl (by rw [hk]; rfl)⟩
  have hl := h4.length_eq
  unfold RowS
  have hmap' : (ks'.map fun p => encStr p.1.kk) = ss.map Value.string := by rw [← h5, List.map_map]; rfl
  rw [hmap', hl]
  exact ⟨h2.1, hR.2⟩
end Go.Proofs.YtcccdlmngddalaaGreat
namespace Go.Proofs.YtcccdlmngddalaaGreat
open Go.RowKit Go.Maps Go.Sort Go.Shelf
set_option linter.unusedVariables false
set_option linter.unusedSimpArgs false
def GoodP (t : Tn) (w : World) (e : Ending) (w' : World) : Prop := ∃ x : Bool, e = .returned (.bool x) ∧ (x = true → t.ok) ∧ Mod (fun _ => False) w w'
set_option maxRecDepth 100000 in
set_option maxHeartbeats 4000000 in
theorem refGood (t : Tn) (w : World) : Calls Tryz.prog 14 #[.agg t.c.toArray] w (GoodP t w) := by
  have hb := Blk.new w 32 t.c
  have c0 := hb.cell (j := 0) rfl
  have c1 := hb.cell (j := 1) rfl
  have c2 := hb.cell (j := 2) rfl
  have c3 := hb.cell (j := 3) rfl
  have c4 := hb.cell (j := 4) rfl
  have HM : Hid (Mod (fun _ => False) w (w.alloc (.cells t.c.toArray 32 (0, 0)))) := Lib.hid ((Mod.refl _ _).alloc _)
  clear hb
  by_cases d0 : t.robust < 1
  · have e0 : decide (t.robust < 1) = true := decide_eq_true d0
    go_enter Tryz.func14, Tryz.ntmps14
    go_wp2
    go_ret
    exact (show GoodP t w _ _ from ⟨false, rfl, fun h => (by cases h), HM.out⟩)
  · have e0 : decide (t.robust < 1) = false := decide_eq_false d0
    by_cases d1 : t.robust > 7
    · have e1 : decide (t.robust > 7) = true := decide_eq_true d1
      go_enter Tryz.func14, Tryz.ntmps14
      go_wp2
      go_ret
      exact (show GoodP t w _ _ from ⟨false, rfl, fun h => (by cases h), HM.out⟩)
    · have e1 : decide (t.robust > 7) = false := decide_eq_false d1
      by_cases d2 : t.count < 1
      · have e2 : decide (t.count < 1) = true := decide_eq_true d2
        go_enter Tryz.func14, Tryz.ntmps14
        go_wp2
        go_ret
        exact (show GoodP t w _ _ from ⟨false, rfl, fun h => (by cases h), HM.out⟩)
      · have e2 : decide (t.count < 1) = false := decide_eq_false d2
        by_cases d3 : t.count > 7
        · have e3 : decide (t.count > 7) = true := decide_eq_true d3
          go_enter Tryz.func14, Tryz.ntmps14
          go_wp2
          go_ret
          exact (show GoodP t w _ _ from ⟨false, rfl, fun h => (by cases h), HM.out⟩)
        · have e3 : decide (t.count > 7) = false := decide_eq_false d3
          by_cases d4 : t.every < 1
          · have e4 : decide (t.every < 1) = true := decide_eq_true d4
            go_enter Tryz.func14, Tryz.ntmps14
            go_wp2
            go_ret
            exact (show GoodP t w _ _ from ⟨false, rfl, fun h => (by cases h), HM.out⟩)
          · have e4 : decide (t.every < 1) = false := decide_eq_false d4
            by_cases d5 : t.every > 317440
            · have e5 : decide (t.every > 317440) = true := decide_eq_true d5
              go_enter Tryz.func14, Tryz.ntmps14
              go_wp2
              go_ret
              exact (show GoodP t w _ _ from ⟨false, rfl, fun h => (by cases h), HM.out⟩)
            · have e5 : decide (t.every > 317440) = false := decide_eq_false d5
              by_cases d6 : t.resp > 0
              · have e6 : decide (t.resp > 0) = true := decide_eq_true d6
                by_cases d7 : t.resp < 31745
                · have e7 : decide (t.resp < 31745) = true := decide_eq_true d7
                  by_cases d8 : t.last > 0
                  · have e8 : decide (t.last > 0) = true := decide_eq_true d8
                    by_cases d9 : t.last < 31745
                    · have e9 : decide (t.last < 31745) = true := decide_eq_true d9
                      by_cases d10 : t.resp ≤ t.every
                      · have e10 : decide (t.resp ≤ t.every) = true := decide_eq_true d10
                        have HOK : Hid t.ok := Lib.hid (by unfold Tn.ok; omega)
                        go_enter Tryz.func14, Tryz.ntmps14
                        go_wp2
                        go_ret
                        exact (show GoodP t w _ _ from ⟨true, rfl, fun _ => HOK.out, HM.out⟩)
                      · have e10 : decide (t.resp ≤ t.every) = false := decide_eq_false d10
                        go_enter Tryz.func14, Tryz.ntmps14
                        go_wp2
                        go_ret
                        exact (show GoodP t w _ _ from ⟨false, rfl, fun h => (by cases h), HM.out⟩)
                    · have e9 : decide (t.last < 31745) = false := decide_eq_false d9
                      go_enter Tryz.func14, Tryz.ntmps14
                      go_wp2
                      go_ret
                      exact (show GoodP t w _ _ from ⟨false, rfl, fun h => (by cases h), HM.out⟩)
                  · have e8 : decide (t.last > 0) = false := decide_eq_false d8
                    go_enter Tryz.func14, Tryz.ntmps14
                    go_wp2
                    go_ret
                    exact (show GoodP t w _ _ from ⟨false, rfl, fun h => (by cases h), HM.out⟩)
                · have e7 : decide (t.resp < 31745) = false := decide_eq_false d7
                  go_enter Tryz.func14, Tryz.ntmps14
                  go_wp2
                  go_ret
                  exact (show GoodP t w _ _ from ⟨false, rfl, fun h => (by cases h), HM.out⟩)
              · have e6 : decide (t.resp > 0) = false := decide_eq_false d6
                go_enter Tryz.func14, Tryz.ntmps14
                go_wp2
                go_ret
                exact (show GoodP t w _ _ from ⟨false, rfl, fun h => (by cases h), HM.out⟩)
set_option maxRecDepth 100000 in
theorem refMember (t : Tn) (ht : t.ok) (w : World) : Calls Tryz.prog 17 #[.agg t.c.toArray] w fun e w' => e = .returned (.int .i64 t.member) ∧ Mod (fun _ => False) w w' := by
  have hb := Blk.new w 32 t.c
  have c0 := hb.cell (j := 0) rfl
  have c1 := hb.cell (j := 1) rfl
  have c2 := hb.cell (j := 2) rfl
  have e1 : IntKind.i64.wrap (t.robust * t.every) = t.robust * t.every := IntWalk.i64_in _ (by obtain ⟨a, b, c, d, e, f, _⟩ := ht; have := Tn.prod a b c d; omega)
  have e2 : IntKind.i64.wrap (t.robust * t.every + t.resp) = t.member := IntWalk.i64_in _ (by have := Tn.member_bd ht; unfold Tn.member at this; omega)
  have HM : Hid (Mod (fun _ => False) w (w.alloc (.cells t.c.toArray 32 (0, 0)))) := Lib.hid ((Mod.refl _ _).alloc _)
  clear hb ht
  go_enter Tryz.func17, Tryz.ntmps17
  go_wp2
  go_ret
  exact ⟨rfl, HM.out⟩
set_option maxRecDepth 100000 in
theorem refGone (a1 : Option Addr) (k1 : Nat) (v2 : Value) (w : World) : Calls Tryz.prog 18 #[.agg #[.bool false, .slice a1 0 k1, v2]] w fun e w' => e = .returned (.bool true) ∧ Mod (fun _ => False) w w' := by
  have hb := Blk.new w 26 [.bool false, .slice a1 0 k1, v2]
  have c0 := hb.cell (j := 0) rfl
  have c1 := hb.cell (j := 1) rfl
  have HM : Hid (Mod (fun _ => False) w (w.alloc (.cells #[.bool false, .slice a1 0 k1, v2] 26 (0, 0)))) := Lib.hid ((Mod.refl _ _).alloc _)
  clear hb
  go_enter Tryz.func18, Tryz.ntmps18
  go_wp2
  go_ret
  exact ⟨rfl, HM.out⟩
set_option maxRecDepth 100000 in
set_option maxHeartbeats 1000000 in
theorem addrs_any {w : World} {ad : Option Addr} {n cap : Nat} {l : List Ad} (h : RdA w (.slice ad n cap) l) : Calls Tryz.prog 20 #[.slice ad n cap, .int .i64 5] w fun e w' => ∃ a1 n1 k1, e = .returned (.slice a1 n1 k1) ∧ RowA w' (fun q => w.heap.size ≤ q) (.slice a1 n1 k1) (l.take 5) ∧ Mod (fun _ => False) w w' := by
  have hn : n = l.length ∧ n ≤ cap ∧ cap ≤ maxLen := by
    obtain ⟨a', c', e, h1, h2, _⟩ := h
    injection e with _ e2 e3
    omega
  have HN := Lib.hid hn
  have HH := Lib.hid h
  have hnm : n ≤ 9223372036854775807 := by have := hn.2; unfold maxLen at this; omega
  clear h hn
  go_enter Tryz.func20, Tryz.ntmps20
  go_wp2_with fail
  go_loopw [5, 6] (fun v5 iv wr => ∃ j : Nat, j ≤ n ∧ j ≤ 5 ∧ iv = .int .i64 (j : Int) ∧ RowA wr (fun q => w.heap.size ≤ q) v5 (l.take j) ∧ Mod (fun _ => False) w wr) (fun _ iv _ => 5 - (intOf iv).toNat)
  case atStart => exact ⟨0, Nat.zero_le _, Nat.zero_le _, rfl, Row.empty w _ 17, (Mod.refl _ _).alloc _⟩
  case round =>
    obtain ⟨j, hj, hj5, rfl, hrow, hmw⟩ := hrel
    obtain ⟨a5, n5, c5, rfl⟩ := hrow.sl
    have HROW := Lib.hid hrow
    have HMW := Lib.hid hmw
    clear hrow hmw
    by_cases hlt : j < n
    · have hlt1 : (j : Int) < (n : Int) := by omega
      by_cases hl5 : j < 5
      · have hl51 : (j : Int) < 5 := by omega
        obtain ⟨g, o, cap', e, hc1, hc2, hra⟩ := HH.out.at (j := j) (by rw [← HN.out.1]; exact hlt)
        simp only [Value.slice.injEq] at e
        obtain ⟨rfl, -, rfl⟩ := e
        obtain ⟨x, hx⟩ : ∃ x, l[j]? = some x := ⟨_, List.getElem?_eq_getElem (by rw [← HN.out.1]; exact hlt)⟩
        have HXR := Lib.hid (keepRange HMW.out (hra j x hx))
        have HXL := Lib.hid x.c_len
        have HX1 := Lib.hid x.c_one
        have HXS := Lib.hid x.c_sz
        have HSN : Hid (l.take (j + 1) = l.take j ++ [x]) := Lib.hid (by rw [List.take_add_one, hx]; rfl)
        obtain ⟨lj, hlj⟩ : ∃ lj, lj = l.take j := ⟨_, rfl⟩
        rw [← hlj] at HROW HSN
        have HLK : Hid (lj.length ≤ 5) := Lib.hid (by rw [hlj, List.length_take]; omega)
        clear hx hlj hra hc1 hc2
        go_wp2_with (first
          | (refine wpList_load_midG rfl _ _ rfl g (o + j * 17) rfl x.c _ HXR.out Tryz.underlying36 rfl HXS.out ?_)
          | (refine wpList_buildSlice1 Tryz.elA rfl _ rfl x.c rfl HXL.out (by decide) (by decide) ?_)
          | (at_builtin; refine wpList_append_one Tryz.elA rfl (.tmp 19) (.tmp 24) rfl x.c.toArray (fun q => w.heap.size ≤ q) (.slice a5 n5 c5) lj.length (cellsA lj) (HROW.out.alloc _) _ (allocNew wr _) rfl rfl (by simpa using HXL.out) (by simpa using HX1.out) (by have := HLK.out; omega) (by have := HLK.out; unfold maxLen; omega) ?_; intro v9 w9 h9 h9m; have H9 := Lib.hid h9; have H9M := Lib.hid h9m; clear h9 h9m))
        go_roundw
        case rel =>
          refine ⟨j + 1, by omega, by omega, by go_num, ?_, (HMW.out.alloc _).trans H9M.out fun q hq => .inr (HROW.out.2 q hq)⟩
          rw [HSN.out]
          unfold RowA
          rw [cellsA_app, show cellsA [x] = x.c by simp [cellsA], List.length_append]
          have hsz := HMW.out.size
          exact H9.out.mono fun q hq => hq.elim (fun h => h) fun h => by simp at h; omega
        case measure => simp [intOf]; omega
      · have hl51 : ¬ (j : Int) < 5 := by omega
        have HF : Hid (l.take 5 = l.take j) := Lib.hid (by rw [show j = 5 by omega])
        go_wp2
        go_ret
        exact ⟨a5, n5, c5, rfl, by rw [HF.out]; exact HROW.out, HMW.out⟩
    · have hlt1 : ¬ (j : Int) < (n : Int) := by omega
      have HF : Hid (l.take 5 = l.take j) := Lib.hid (by rw [List.take_of_length_le (i := j) (by have := HN.out.1; omega), List.take_of_length_le (by have := HN.out.1; omega)])
      go_wp2
      go_ret
      exact ⟨a5, n5, c5, rfl, by rw [HF.out]; exact HROW.out, HMW.out⟩
def clampW (n : Int) : Int := if 1000000 < n then 1000000 else if n < -1000000 then -1000000 else n
theorem clampW_bd (n : Int) : -1000000 ≤ clampW n ∧ clampW n ≤ 1000000 := by unfold clampW; split <;> (try split) <;> omega
def GA.cut (x : GA) : GA := { x with wait := clampW x.wait, src := x.src.take 5 }
theorem GA.c_set1 (x : GA) (v : Value) (n : Int) : (x.c v).set 1 (.int .i64 n) = ({ x with wait := n } : GA).c v := rfl
theorem GA.c_21 (x : GA) (v : Value) : (x.c v)[21]? = some v := by
  have h := x.g.c_len
  unfold GA.c recC
  rw [show (21 : Nat) = 20 + 1 from rfl, List.getElem?_cons_succ, show (20 : Nat) = 19 + 1 from rfl, List.getElem?_cons_succ, show (19 : Nat) = 18 + 1 from rfl, List.getElem?_cons_succ]
  rw [List.cons_append, show (18 : Nat) = 17 + 1 from rfl, List.getElem?_cons_succ, List.append_assoc, List.getElem?_append_right (by omega), h]
  rfl
theorem GA.c_set21 (x : GA) (v u : Value) : (x.c v).set 21 u = x.c u := by
  have h := x.g.c_len
  unfold GA.c recC
  rw [show (21 : Nat) = 20 + 1 from rfl, List.set_cons_succ, show (20 : Nat) = 19 + 1 from rfl, List.set_cons_succ, show (19 : Nat) = 18 + 1 from rfl, List.set_cons_succ]
  rw [List.cons_append, show (18 : Nat) = 17 + 1 from rfl, List.set_cons_succ, List.append_assoc, List.set_append, if_neg (by omega), h]
  simp
theorem GA.c_one (x : GA) (v : Value) (hv : v.oneCell' = true) : ∀ u ∈ x.c v, u.oneCell' = true := fun u hu => by
  unfold GA.c at hu
  simp only [List.mem_cons, List.mem_append, List.not_mem_nil, or_false] at hu
  rcases hu with rfl | rfl | rfl | hu | rfl
  · rfl
  · rfl
  · rfl
  · exact recC_one _ _ _ hv u hu
  · rfl
theorem GA.c_sz (x : GA) (v : Value) : (Tryz.prog.info? 46).map (·.size) = some (x.c v).length := by rw [x.c_len]; kernel_rfl
theorem adSz : (Tryz.prog.info? 24).map (·.size) = some 1 := by kernel_rfl
set_option maxRecDepth 100000 in
set_option maxHeartbeats 2000000 in
theorem act_any {w : World} (x : GA) {ad : Option Addr} {n cap : Nat} (h : RdA w (.slice ad n cap) x.src) : Calls Tryz.prog 15 #[.agg (x.c (.slice ad n cap)).toArray] w fun e w' => ∃ a1 n1 k1, e = .returned (.agg (x.cut.c (.slice a1 n1 k1)).toArray) ∧ RowA w' (fun q => w.heap.size ≤ q) (.slice a1 n1 k1) x.cut.src ∧ Mod (fun _ => False) w w' := by
  have HW : Hid (Mod (fun _ => False) w ((w.alloc (.cells (x.c (.slice ad n cap)).toArray 46 (0, 0))).alloc (.cells #[.int .i64 0, .int .i64 0, .int .i64 0, .int .i64 0, .bool false, .int .u8 0, .int .u8 0, .int .u8 0, .int .u8 0, .int .u8 0, .int .u8 0, .int .u8 0, .int .u8 0, .int .u8 0, .int .u8 0, .int .u8 0, .int .u8 0, .int .u8 0, .int .u8 0, .int .u8 0, .int .u8 0, .slice none 0 0, .bool false] 46 (0, 0)))) := Lib.hid (((Mod.refl _ _).alloc _).alloc _)
  have HX0 : Hid (Blk ((w.alloc (.cells (x.c (.slice ad n cap)).toArray 46 (0, 0))).alloc (.cells #[.int .i64 0, .int .i64 0, .int .i64 0, .int .i64 0, .bool false, .int .u8 0, .int .u8 0, .int .u8 0, .int .u8 0, .int .u8 0, .int .u8 0, .int .u8 0, .int .u8 0, .int .u8 0, .int .u8 0, .int .u8 0, .int .u8 0, .int .u8 0, .int .u8 0, .int .u8 0, .int .u8 0, .slice none 0 0, .bool false] 46 (0, 0))) w.heap.size 46 (x.c (.slice ad n cap))) := Lib.hid ((Blk.new w _ _).alloc _)
  have HZ0 : Hid (Blk ((w.alloc (.cells (x.c (.slice ad n cap)).toArray 46 (0, 0))).alloc (.cells #[.int .i64 0, .int .i64 0, .int .i64 0, .int .i64 0, .bool false, .int .u8 0, .int .u8 0, .int .u8 0, .int .u8 0, .int .u8 0, .int .u8 0, .int .u8 0, .int .u8 0, .int .u8 0, .int .u8 0, .int .u8 0, .int .u8 0, .int .u8 0, .int .u8 0, .int .u8 0, .int .u8 0, .slice none 0 0, .bool false] 46 (0, 0))) (w.heap.size + 1) 46 [.int .i64 0, .int .i64 0, .int .i64 0, .int .i64 0, .bool false, .int .u8 0, .int .u8 0, .int .u8 0, .int .u8 0, .int .u8 0, .int .u8 0, .int .u8 0, .int .u8 0, .int .u8 0, .int .u8 0, .int .u8 0, .int .u8 0, .int .u8 0, .int .u8 0, .int .u8 0, .int .u8 0, .slice none 0 0, .bool false]) := Lib.hid (by
    have := Blk.new (w.alloc (.cells (x.c (.slice ad n cap)).toArray 46 (0, 0))) 46 [.int .i64 0, .int .i64 0, .int .i64 0, .int .i64 0, .bool false, .int .u8 0, .int .u8 0, .int .u8 0, .int .u8 0, .int .u8 0, .int .u8 0, .int .u8 0, .int .u8 0, .int .u8 0, .int .u8 0, .int .u8 0, .int .u8 0, .int .u8 0, .int .u8 0, .int .u8 0, .int .u8 0, .slice none 0 0, .bool false]
    rwa [show (w.alloc (.cells (x.c (.slice ad n cap)).toArray 46 (0, 0))).heap.size = w.heap.size + 1 by simp] at this)
  have x21 : ((w.alloc (.cells (x.c (.slice ad n cap)).toArray 46 (0, 0))).alloc (.cells #[.int .i64 0, .int .i64 0, .int .i64 0, .int .i64 0, .bool false, .int .u8 0, .int .u8 0, .int .u8 0, .int .u8 0, .int .u8 0, .int .u8 0, .int .u8 0, .int .u8 0, .int .u8 0, .int .u8 0, .int .u8 0, .int .u8 0, .int .u8 0, .int .u8 0, .int .u8 0, .int .u8 0, .slice none 0 0, .bool false] 46 (0, 0))).cell? ⟨w.heap.size, 21, none⟩ = some (.slice ad n cap) := HX0.out.cell (x.c_21 _)
  have HR0 := Lib.hid (h.keep0 HW.out)
  clear h
  go_enter Tryz.func15, Tryz.ntmps15
  go_wp2_with fail
  refine (addrs_any HR0.out).mono ?_
  rintro e W1 ⟨a1, n1, k1, rfl, hr1, hm1⟩
  have HR1 := Lib.hid hr1
  have HX1 := Lib.hid (HX0.out.keep hm1 fun f => f)
  have HZ1 := Lib.hid (HZ0.out.keep hm1 fun f => f)
  have HM1 : Hid (Mod (fun _ => False) w W1) := Lib.hid (HW.out.trans hm1 fun _ f => f.elim)
  have hsz := HW.out.size
  have hlt1 := HX1.out.lt
  have hlt2 := HZ1.out.lt
  have HLT : Hid (w.heap.size ≤ ((w.alloc (.cells (x.c (.slice ad n cap)).toArray 46 (0, 0))).alloc (.cells #[.int .i64 0, .int .i64 0, .int .i64 0, .int .i64 0, .bool false, .int .u8 0, .int .u8 0, .int .u8 0, .int .u8 0, .int .u8 0, .int .u8 0, .int .u8 0, .int .u8 0, .int .u8 0, .int .u8 0, .int .u8 0, .int .u8 0, .int .u8 0, .int .u8 0, .int .u8 0, .int .u8 0, .slice none 0 0, .bool false] 46 (0, 0))).heap.size ∧ ((w.alloc (.cells (x.c (.slice ad n cap)).toArray 46 (0, 0))).alloc (.cells #[.int .i64 0, .int .i64 0, .int .i64 0, .int .i64 0, .bool false, .int .u8 0, .int .u8 0, .int .u8 0, .int .u8 0, .int .u8 0, .int .u8 0, .int .u8 0, .int .u8 0, .int .u8 0, .int .u8 0, .int .u8 0, .int .u8 0, .int .u8 0, .int .u8 0, .int .u8 0, .int .u8 0, .slice none 0 0, .bool false] 46 (0, 0))).heap.size = w.heap.size + 2) := Lib.hid ⟨hsz, by simp⟩
  clear hr1 hm1 HR0 HX0 HZ0 x21 hsz hlt1 hlt2
  by_cases d1 : 1000000 < x.wait
  · have HCL : Hid (clampW x.wait = 1000000) := Lib.hid (if_pos d1)
    have d1' : x.wait > 1000000 := d1
    go_wp2_with (first | (refine wpList_store_blk1 rfl 24 _ _ rfl w.heap.size 21 46 _ (.slice a1 n1 k1) rfl (by go_simp) HX1.out (by rw [GA.c_len]; omega) adSz rfl ?_; intro W2 hb2 hm2; have HX2 := Lib.hid (x.c_set21 _ _ ▸ hb2.out); have HM2 := hm2; have y1 : W2.cell? ⟨w.heap.size, 1, none⟩ = some (.int .i64 x.wait) := HX2.out.cell rfl; clear hb2 hm2) | (refine wpList_store_blk1 rfl 3 _ _ rfl w.heap.size 1 46 _ (.int .i64 (1000000)) rfl rfl HX2.out (by rw [GA.c_len]; omega) iSz rfl ?_; intro W3 hb3 hm3; have HX3 := Lib.hid (GA.c_set1 x (.slice a1 n1 k1) (1000000) ▸ hb3.out); have HM3 := hm3; have y3 : W3.cell? ⟨w.heap.size, 1, none⟩ = some (.int .i64 (1000000)) := HX3.out.cell rfl; clear hb3 hm3 y1) | (refine wpList_load_blk rfl _ _ rfl w.heap.size 0 rfl 46 (({ x with wait := 1000000 } : GA).c (.slice a1 n1 k1)) (({ x with wait := 1000000 } : GA).c (.slice a1 n1 k1)) _ HX3.out (List.take_of_length_le (Nat.le_refl _)) Tryz.underlying46 rfl (GA.c_sz _ _) ?_) | (refine wpList_store_blk rfl _ _ _ rfl (w.heap.size + 1) 0 46 [.int .i64 0, .int .i64 0, .int .i64 0, .int .i64 0, .bool false, .int .u8 0, .int .u8 0, .int .u8 0, .int .u8 0, .int .u8 0, .int .u8 0, .int .u8 0, .int .u8 0, .int .u8 0, .int .u8 0, .int .u8 0, .int .u8 0, .int .u8 0, .int .u8 0, .int .u8 0, .int .u8 0, .slice none 0 0, .bool false] (({ x with wait := 1000000 } : GA).c (.slice a1 n1 k1)) rfl rfl ((HZ1.out.keep HM2.out fun e => by omega).keep HM3.out fun e => by omega) (by rw [GA.c_len]; simp) (GA.c_sz _ _) (GA.c_one _ _ rfl) ?_; intro W5 HZ5 HM5))
    have hcut : x.cut.c (.slice a1 n1 k1) = ({ x with wait := 1000000 } : GA).c (.slice a1 n1 k1) := by unfold GA.cut; rw [HCL.out]; rfl
    refine bodyPost_ret (results_blk rfl _ (w.heap.size + 1) 46 (({ x with wait := 1000000 } : GA).c (.slice a1 n1 k1)) rfl (splice_all HZ5.out (by rw [GA.c_len]; rfl)) Tryz.underlying46 rfl (GA.c_sz _ _)) rfl ?_
    refine ⟨a1, n1, k1, by rw [hcut], ?_, ((HM1.out.trans HM2.out fun q hq => .inr (by omega)).trans HM3.out fun q hq => .inr (by omega)).trans HM5.out fun q hq => .inr (by omega)⟩
    have hr := ((HR1.out.keepT HM2.out (HX1.out.notA (by decide))).keepT HM3.out (HX2.out.notA (by decide)))
    exact (hr.keepT HM5.out ((((HZ1.out.keep HM2.out fun e => by omega).keep HM3.out fun e => by omega)).notA (by decide))).mono fun q hq => by have := HLT.out; omega
  · have d1' : ¬ x.wait > 1000000 := d1
    by_cases d2 : x.wait < -1000000
    · have HCL : Hid (clampW x.wait = -1000000) := Lib.hid (by unfold clampW; rw [if_neg d1, if_pos d2])
      go_wp2_with (first | (refine wpList_store_blk1 rfl 24 _ _ rfl w.heap.size 21 46 _ (.slice a1 n1 k1) rfl (by go_simp) HX1.out (by rw [GA.c_len]; omega) adSz rfl ?_; intro W2 hb2 hm2; have HX2 := Lib.hid (x.c_set21 _ _ ▸ hb2.out); have HM2 := hm2; have y1 : W2.cell? ⟨w.heap.size, 1, none⟩ = some (.int .i64 x.wait) := HX2.out.cell rfl; clear hb2 hm2) | (refine wpList_store_blk1 rfl 3 _ _ rfl w.heap.size 1 46 _ (.int .i64 (-1000000)) rfl rfl HX2.out (by rw [GA.c_len]; omega) iSz rfl ?_; intro W3 hb3 hm3; have HX3 := Lib.hid (GA.c_set1 x (.slice a1 n1 k1) (-1000000) ▸ hb3.out); have HM3 := hm3; have y3 : W3.cell? ⟨w.heap.size, 1, none⟩ = some (.int .i64 (-1000000)) := HX3.out.cell rfl; clear hb3 hm3 y1) | (refine wpList_load_blk rfl _ _ rfl w.heap.size 0 rfl 46 (({ x with wait := -1000000 } : GA).c (.slice a1 n1 k1)) (({ x with wait := -1000000 } : GA).c (.slice a1 n1 k1)) _ HX3.out (List.take_of_length_le (Nat.le_refl _)) Tryz.underlying46 rfl (GA.c_sz _ _) ?_) | (refine wpList_store_blk rfl _ _ _ rfl (w.heap.size + 1) 0 46 [.int .i64 0, .int .i64 0, .int .i64 0, .int .i64 0, .bool false, .int .u8 0, .int .u8 0, .int .u8 0, .int .u8 0, .int .u8 0, .int .u8 0, .int .u8 0, .int .u8 0, .int .u8 0, .int .u8 0, .int .u8 0, .int .u8 0, .int .u8 0, .int .u8 0, .int .u8 0, .int .u8 0, .slice none 0 0, .bool false] (({ x with wait := -1000000 } : GA).c (.slice a1 n1 k1)) rfl rfl ((HZ1.out.keep HM2.out fun e => by omega).keep HM3.out fun e => by omega) (by rw [GA.c_len]; simp) (GA.c_sz _ _) (GA.c_one _ _ rfl) ?_; intro W5 HZ5 HM5))
      have hcut : x.cut.c (.slice a1 n1 k1) = ({ x with wait := -1000000 } : GA).c (.slice a1 n1 k1) := by unfold GA.cut; rw [HCL.out]; rfl
      refine bodyPost_ret (results_blk rfl _ (w.heap.size + 1) 46 (({ x with wait := -1000000 } : GA).c (.slice a1 n1 k1)) rfl (splice_all HZ5.out (by rw [GA.c_len]; rfl)) Tryz.underlying46 rfl (GA.c_sz _ _)) rfl ?_
      refine ⟨a1, n1, k1, by rw [hcut], ?_, ((HM1.out.trans HM2.out fun q hq => .inr (by omega)).trans HM3.out fun q hq => .inr (by omega)).trans HM5.out fun q hq => .inr (by omega)⟩
      have hr := ((HR1.out.keepT HM2.out (HX1.out.notA (by decide))).keepT HM3.out (HX2.out.notA (by decide)))
      exact (hr.keepT HM5.out ((((HZ1.out.keep HM2.out fun e => by omega).keep HM3.out fun e => by omega)).notA (by decide))).mono fun q hq => by have := HLT.out; omega
    · have HCL : Hid (clampW x.wait = x.wait) := Lib.hid (by unfold clampW; rw [if_neg d1, if_neg d2])
      go_wp2_with (first | (refine wpList_store_blk1 rfl 24 _ _ rfl w.heap.size 21 46 _ (.slice a1 n1 k1) rfl (by go_simp) HX1.out (by rw [GA.c_len]; omega) adSz rfl ?_; intro W2 hb2 hm2; have HX2 := Lib.hid (x.c_set21 _ _ ▸ hb2.out); have HM2 := hm2; have y1 : W2.cell? ⟨w.heap.size, 1, none⟩ = some (.int .i64 x.wait) := HX2.out.cell rfl; clear hb2 hm2) | (refine wpList_load_blk rfl _ _ rfl w.heap.size 0 rfl 46 (x.c (.slice a1 n1 k1)) (x.c (.slice a1 n1 k1)) _ HX2.out (List.take_of_length_le (Nat.le_refl _)) Tryz.underlying46 rfl (GA.c_sz _ _) ?_) | (refine wpList_store_blk rfl _ _ _ rfl (w.heap.size + 1) 0 46 [.int .i64 0, .int .i64 0, .int .i64 0, .int .i64 0, .bool false, .int .u8 0, .int .u8 0, .int .u8 0, .int .u8 0, .int .u8 0, .int .u8 0, .int .u8 0, .int .u8 0, .int .u8 0, .int .u8 0, .int .u8 0, .int .u8 0, .int .u8 0, .int .u8 0, .int .u8 0, .int .u8 0, .slice none 0 0, .bool false] (x.c (.slice a1 n1 k1)) rfl rfl (HZ1.out.keep HM2.out fun e => by omega) (by rw [GA.c_len]; simp) (GA.c_sz _ _) (GA.c_one _ _ rfl) ?_; intro W5 HZ5 HM5))
      have hcut : x.cut.c (.slice a1 n1 k1) = x.c (.slice a1 n1 k1) := by unfold GA.cut; rw [HCL.out]; rfl
      refine bodyPost_ret (results_blk rfl _ (w.heap.size + 1) 46 (x.c (.slice a1 n1 k1)) rfl (splice_all HZ5.out (by rw [GA.c_len]; rfl)) Tryz.underlying46 rfl (GA.c_sz _ _)) rfl ?_
      refine ⟨a1, n1, k1, by rw [hcut], ?_, (HM1.out.trans HM2.out fun q hq => .inr (by omega)).trans HM5.out fun q hq => .inr (by omega)⟩
      have hr := (HR1.out.keepT HM2.out (HX1.out.notA (by decide)))
      exact (hr.keepT HM5.out (((HZ1.out.keep HM2.out fun e => by omega)).notA (by decide))).mono fun q hq => by have := HLT.out; omega
set_option maxRecDepth 100000 in
set_option maxHeartbeats 1000000 in
theorem cNext0 {w : World} {c b : Nat} {T : Ad → Option Int} (h : ClkAt w c b T []) :
    Calls Tryz.prog 51 #[.pointer (some ⟨c, 0, none⟩)] w fun e w' => (∃ s, e = .returned (.tuple #[.string s, .int .i64 0, .bool false])) ∧ Mod (fun _ => False) w w' := by
  have c0 : w.cell? ⟨c, 0, none⟩ = some (.map (some b)) := h.blk.cell rfl
  have K : Keyed Tryz.prog 9 := string_keyed Tryz.underlying9
  obtain ⟨q1, q2, q3⟩ := enm_fit (L := [])
  obtain ⟨ml, hown, hperm⟩ := h.mp.owns (H := Unit) (P := Tryz.prog) (kt := 9) Tryz.underlying9 q1 q2 (by rw [q3]; unfold maxLen; simp)
  obtain ⟨ml', hml, hap, _⟩ := hown.entries K
  obtain rfl : ml = ml' := by injection hml
  have HH := Lib.hid h
  have HP := Lib.hid hperm
  have HAP := Lib.hid hap
  have HOWN := Lib.hid hown
  have hbl := hown.lt
  clear hperm hap hml h hown q1 q2 q3
  go_enter Tryz.func51, Tryz.ntmps51
  go_wp2_with (first
    | (at_range; refine wpList_range_own _ rfl _ 130 rfl 9 3 K Tryz.underlying130 Ri b _ _ rfl HOWN.out ?_; intro w0 hrg0 hg0 hs0)
    | go_in)
  go_frame
  have HM0 : Hid (Mod (fun _ => False) w w0) := Lib.hid ((Mod.ofGrown hg0).mono fun k hk => by cases hk)
  go_loopw [5, 6] (fun v5 v6 wr => v5 = .string ⟨#[]⟩ ∧ v6 = .bool false ∧ ∃ (left : Lit → Bool) (cnt : Nat), wr.ranges Tryz.prog 9 Ri b w.heap.size (enm ([] : List (Ad × Int))).length (.map ml) left cnt ∧ Mod (fun _ => False) w wr)
    (fun _ _ wr => wr.rangeLeft b w.heap.size)
  case atStart => exact ⟨rfl, rfl, _, _, hrg0, HM0.out⟩
  case round =>
    obtain ⟨rfl, rfl, left, cnt, hrg, hmw⟩ := hrel
    have HMW := Lib.hid hmw
    have HRG := Lib.hid hrg
    clear hmw hrg HM0
    go_wp2_with (first
      | (at_next; refine wpList_next_ranges _ rfl _ rfl 9 K Ri (fun x : List UInt8 => Value.string ⟨x.toArray⟩) (Value.int .i64) (fun key kl hk => by obtain ⟨x, hx, _⟩ := Maps.keyOf_str Tryz.underlying9 hk; exact ⟨x, hx⟩) (fun v y hv => by obtain ⟨t, ht, _⟩ := Ri_int hv; exact ⟨t, ht⟩) b w.heap.size _ _ _ _ rfl HRG.out ?_ ?_)
      | go_in)
    · intro hc0 hl0
      have HC1 := Lib.hid (HH.out.keep0 HMW.out)
      have hS : wr.drew.cell? ⟨c, 0, none⟩ = some (.map (some b)) ∧ Ms wr.drew b (enm []) := ⟨HC1.out.blk.cell rfl, HC1.out.mp.keep (Mod.refl (fun _ => False) wr).drew fun f => f⟩
      have HL1 : Hid (∀ {o : Oper} {ev : Operand → Value} {x' i : Operand}, o.op = .lookup 130 x' i false → ev x' = .map (some b) → ev i = .string ⟨#[]⟩ → ∀ w', Ms w' b (enm []) → (execOp ev o).run Tryz.prog w' = .ok (.value (.int .i64 0)) w') := Lib.hid fun ho hx' hi w' hm => by
        have := exec_lookup_ms (P := Tryz.prog) (k := []) Tryz.underlying130 Tryz.underlying9 zeroI ho hx' hi hm
        exact this
      clear hc0 hl0
      go_wp2_with fail
      refine wp_region_plan [] [(0, 0), (1, 0), (2, 0), (3, 0), (4, 1), (5, 0), (6, 1), (7, 0), (8, 0), (9, 0), (10, 0)] (fun w' : World => w'.cell? ⟨c, 0, none⟩ = some (.map (some b)) ∧ Ms w' b (enm [])) (by kernel_rfl) (by kernel_rfl) (fun d v c a w h => by first | (cases d <;> exact h) | exact HP d v c a w h) ?_
      repeat ((first | refine plan_skip rfl rfl ?_ | refine plan_pass2 rfl rfl ?_ | refine plan_pass3 rfl rfl ?_ | (refine plan_take (v := ?_) rfl rfl ?_ ?_; rotate_left; focus (intro w0; go_simp; try with_reducible rfl)) | (refine plan_held (v := ?_) rfl rfl hS ?_ ?_; rotate_left; focus (intro w0 hSw; (try dsimp only at hSw); go_split_ands; go_simp; try with_reducible rfl)) | refine plan_skip1 rfl rfl hS ?_); simp only [List.getElem_toArray, List.getElem_cons_succ, List.getElem_cons_zero, Act.put, List.setIfInBounds_toArray, List.set_cons_zero, List.set_cons_succ])
      (refine plan_held (v := .int .i64 0) rfl rfl hS (fun w0 h0 => HL1.out rfl rfl rfl w0 h0.2) ?_; try simp only [List.getElem_toArray, List.getElem_cons_succ, List.getElem_cons_zero, Act.put, List.setIfInBounds_toArray, List.set_cons_zero, List.set_cons_succ])
      repeat ((first | refine plan_skip rfl rfl ?_ | refine plan_pass2 rfl rfl ?_ | refine plan_pass3 rfl rfl ?_ | (refine plan_take (v := ?_) rfl rfl ?_ ?_; rotate_left; focus (intro w0; go_simp; try with_reducible rfl)) | (refine plan_held (v := ?_) rfl rfl hS ?_ ?_; rotate_left; focus (intro w0 hSw; (try dsimp only at hSw); go_split_ands; go_simp; try with_reducible rfl)) | refine plan_skip1 rfl rfl hS ?_); simp only [List.getElem_toArray, List.getElem_cons_succ, List.getElem_cons_zero, Act.put, List.setIfInBounds_toArray, List.set_cons_zero, List.set_cons_succ])
      refine plan_nil ?_
      go_wp2
      go_ret3
      exact ⟨⟨_, rfl⟩, HMW.out.drew⟩
    · intro x t kl yd yp w1 cnt1 hkey hlx hv hat hrg1 hlt hg1 hs1 hen
      obtain ⟨x', ex, rfl, _⟩ := Maps.keyOf_str Tryz.underlying9 hkey
      obtain rfl : x = x' := encStr_inj ex
      obtain ⟨t', et, ey⟩ := Ri_int hv
      obtain rfl : t = t' := by injection et
      injection ey with ey _
      subst ey
      obtain ⟨p, hpL, hpk, hpt⟩ := enS_mem HP.out HAP.out hat
      cases hpL
section
variable {N : Nat} (SO : SortOk N) {w : World} {p c b : Nat} {G : Gs} (h : GAt w p c b G) (ok : GOk G) (now : Int) (hN : ∀ L : List (Ad × Int), (∀ a1 n1 k1 a2 n2 k2, GIn w p c b G a1 n1 k1 a2 n2 k2 L → (dueL (nowG G now) L).length ≤ N))
include SO h ok hN
set_option maxRecDepth 100000 in
set_option maxHeartbeats 1000000 in
theorem gNext0 (hx : (settleG G now).ex = false) (hT : ∀ a, (settleG G now).T a = none) : Calls Tryz.prog 16 #[.pointer (some ⟨p, 0, none⟩), .int .i64 now] w fun e w' => e = .returned (.tuple #[.int .i64 0, .bool false]) ∧ GAt w' p c b (settleG G now) ∧ Mod (fun k => k = p ∨ k = b) w w' := by
  obtain ⟨a1, n1, k1, a2, n2, k2, L, h⟩ := h
  have hn := hN L _ _ _ _ _ _ h
  have HH := Lib.hid h
  have OK := Lib.hid ok
  have HSO := Lib.hid SO
  have HN := Lib.hid hn
  clear h hN ok SO hn
  obtain ⟨G1, hG1⟩ : ∃ G1, G1 = settleG G now := ⟨_, rfl⟩
  have HG1 := Lib.hid hG1
  rw [← hG1] at hx hT ⊢
  have HT := Lib.hid hT
  have HX := Lib.hid hx
  clear hG1 hT hx
  go_enter Tryz.func16, Tryz.ntmps16
  go_wp2_with fail
  refine (gsettle HSO.out HH.out OK.out now HN.out).mono ?_
  rw [← HG1.out]
  rintro e W1 ⟨rfl, ⟨b1, m1, d1, b2, m2, d2, L1, hg1⟩, hm1⟩
  have HI1 := Lib.hid hg1
  have HM1 := Lib.hid hm1
  obtain rfl : L1 = [] := List.eq_nil_of_length_eq_zero (by have := hg1.clk.tl.len (D := []) fun a ha => absurd (HT.out a) ha; simpa using this)
  have x4 : W1.cell? ⟨p, 6, none⟩ = some (.pointer (some ⟨c, 0, none⟩)) := hg1.blk.cell rfl
  clear hg1 hm1
  go_wp2_with fail
  refine (cNext0 HI1.out.clk).mono ?_
  rintro e W2 ⟨⟨s, rfl⟩, hm2⟩
  have HI2 := Lib.hid (HI1.out.keep0 hm2)
  have HM2 : Hid (Mod (fun k => k = p ∨ k = b) w W2) := Lib.hid (HM1.out.trans hm2 fun _ f => f.elim)
  have x2 : W2.cell? ⟨p, 2, none⟩ = some (.bool false) := by have := HI2.out.blk.cell (j := 2) (u := .bool G1.ex) rfl; rwa [HX.out] at this
  clear hm2
  go_wp2
  go_ret2
  exact ⟨rfl, ⟨b1, m1, d1, b2, m2, d2, [], HI2.out⟩, HM2.out⟩
end
end Go.Proofs.YtcccdlmngddalaaGreat
namespace Go.Proofs.YtcccdlmngddalaaGreat
open Go.RowKit Go.Sort
set_option linter.unusedVariables false
set_option linter.unusedSimpArgs false
/-- what is settled twice is settled once, at the later time -/
theorem settle_twice {G : Gs} (h1 : AS G.on) (h2 : AS G.off) {m n : Int} (hmn : m ≤ n) : settleG (settleG G m) n = settleG G n := by
  have hw : nowG (settleG G m) n = nowG G n := by
    show max (max G.now (min m 1000000000000)) (min n 1000000000000) = max G.now (min n 1000000000000)
    omega
  have hle : nowG G m ≤ nowG G n := by unfold nowG; omega
  have hT : updn (updn G.T (nowG G m)) (nowG G n) = updn G.T (nowG G n) := by
    funext a
    unfold updn
    cases hx : G.T a with
    | none => rfl
    | some t =>
      simp only
      by_cases c1 : t ≤ nowG G m
      · rw [if_pos c1, if_pos (by omega)]
      · rw [if_neg c1]
  have hd : ∀ a, dueB (updn G.T (nowG G m)) (nowG G n) a = (dueB G.T (nowG G n) a && !dueB G.T (nowG G m) a) := fun a => by
    unfold dueB updn
    cases hx : G.T a with
    | none => rfl
    | some t =>
      simp only
      by_cases c1 : t ≤ nowG G m
      · rw [if_pos c1]
        simp [c1]
      · rw [if_neg c1]
        simp [c1]
  have hmono : ∀ a, dueB G.T (nowG G m) a = true → dueB G.T (nowG G n) a = true := fun a ha => by
    obtain ⟨t, ht, hl⟩ := dueB_iff.1 ha
    exact dueB_iff.2 ⟨t, ht, by omega⟩
  have hon : (G.on.filter fun a => !dueB G.T (nowG G m) a).filter (fun a => !dueB (updn G.T (nowG G m)) (nowG G n) a) = G.on.filter fun a => !dueB G.T (nowG G n) a := by
    rw [List.filter_filter]
    refine List.filter_congr fun a _ => ?_
    rw [hd]
    have := hmono a
    cases e1 : dueB G.T (nowG G m) a <;> cases e2 : dueB G.T (nowG G n) a <;> simp_all
  have has := h1.filter fun a => dueB G.T (nowG G m) a
  have hoff : orA (orA G.off (G.on.filter fun a => dueB G.T (nowG G m) a)) ((G.on.filter fun a => !dueB G.T (nowG G m) a).filter fun a => dueB (updn G.T (nowG G m)) (nowG G n) a) = orA G.off (G.on.filter fun a => dueB G.T (nowG G n) a) := by
    have a1 := (h1.filter fun a => !dueB G.T (nowG G m) a).filter fun a => dueB (updn G.T (nowG G m)) (nowG G n) a
    have a2 := h1.filter fun a => dueB G.T (nowG G n) a
    refine AS.ext (orA_as (orA_as h2 has) a1) (orA_as h2 a2) fun a => ?_
    rw [mem_orA (orA_as h2 has) a1, mem_orA h2 has, mem_orA h2 a2, List.mem_filter, List.mem_filter, List.mem_filter, List.mem_filter, hd]
    have := hmono a
    cases e1 : dueB G.T (nowG G m) a <;> cases e2 : dueB G.T (nowG G n) a <;> simp_all
  unfold settleG at hw ⊢
  simp only at hw ⊢
  rw [hw]
  have hg : ∀ x : Gs, goneG x n = (x.ex && decide (x.till ≤ nowG x n)) := fun _ => rfl
  simp only [hg, hw]
  have hgm : goneG G m = (G.ex && decide (G.till ≤ nowG G m)) := rfl
  simp only [hgm]
  rw [hT, hon]
  cases hex : G.ex with
  | false => simp
  | true =>
    by_cases c1 : G.till ≤ nowG G m
    · have c2 : G.till ≤ nowG G n := by omega
      simp [c1, c2]
    · by_cases c2 : G.till ≤ nowG G n
      · simp [c1, c2]
      · rw [List.filter_filter] at hoff
        simp [c1, c2, hoff]
/-- from a time on, two groups come to the same -/
def From (H G : Gs) (n : Int) : Prop := ∀ k, n ≤ k → settleG H k = settleG G k
theorem From.refl (G : Gs) (n : Int) : From G G n := fun _ _ => rfl
theorem From.later {H G : Gs} {n m : Int} (h : From H G n) (hm : n ≤ m) : From H G m := fun k hk => h k (by omega)
theorem From.asked {H G : Gs} {n m : Int} (h : From H G n) (h1 : AS H.on) (h2 : AS H.off) (hm : n ≤ m) : From (settleG H m) G m := fun k hk => by
  rw [settle_twice h1 h2 hk]
  exact h k (by omega)
theorem From.hear {H G : Gs} {n : Int} (h : From H G n) (M older k : Int) (l : List Ad) : hearG H n M older k l = hearG G n M older k l := by
  unfold hearG
  rw [h n (Int.le_refl _)]
/-- the deadlines of those that are asked for -/
def qS (T : Ad → Option Int) (low : Int) (a : Ad) : Ad → Option Int := if a.good = true ∧ low < (T a).getD low then upd T a (some low) else T
def qT (low : Int) : List Ad → (Ad → Option Int) → Ad → Option Int := fun l T => l.foldl (fun T a => qS T low a) T
theorem qT_take {low : Int} {l : List Ad} {T : Ad → Option Int} {j : Nat} {x : Ad} (hx : l[j]? = some x) : qT low (l.take (j + 1)) T = qS (qT low (l.take j) T) low x := by
  unfold qT
  rw [List.take_add_one, hx, List.foldl_append]
  rfl
def queryS (S : Gs) (F : Int) (l : List Ad) : Gs :=
  if l = [] then (if S.ex = false ∨ S.till ≤ S.now + F then S else { S with till := S.now + F })
  else { S with T := qT (S.now + F) l S.T }
def queryG (G : Gs) (n F : Int) (l : List Ad) : Gs := queryS (settleG G n) F l
theorem From.query {H G : Gs} {n : Int} (h : From H G n) (F : Int) (l : List Ad) : queryG H n F l = queryG G n F l := by
  unfold queryG
  rw [h n (Int.le_refl _)]
theorem qS_none {T : Ad → Option Int} {low : Int} {x a : Ad} : qS T low x a = none ↔ T a = none := by
  unfold qS
  split
  · rename_i h
    unfold upd
    split
    · rename_i e
      subst e
      constructor
      · intro h'; cases h'
      · intro h'; rw [h'] at h; simp at h
    · exact Iff.rfl
  · exact Iff.rfl
theorem qT_none {low : Int} {a : Ad} : ∀ (l : List Ad) (T : Ad → Option Int), qT low l T a = none ↔ T a = none
  | [], T => Iff.rfl
  | x :: l, T => by
    show qT low l (qS T low x) a = none ↔ _
    rw [qT_none l, qS_none]
theorem qS_val {T : Ad → Option Int} {low : Int} {x a : Ad} {t : Int} (h : qS T low x a = some t) : T a = some t ∨ t = low := by
  unfold qS at h
  split at h
  · unfold upd at h
    split at h
    · injection h with h; exact .inr h.symm
    · exact .inl h
  · exact .inl h
theorem qT_val {low : Int} {a : Ad} {t : Int} : ∀ (l : List Ad) (T : Ad → Option Int), qT low l T a = some t → T a = some t ∨ t = low
  | [], T, h => .inl h
  | x :: l, T, h => by
    rcases qT_val l (qS T low x) h with h | h
    · exact qS_val h
    · exact .inr h
theorem EG.query {G : Gs} {C n : Int} (h : EG G C n) {m : Int} (hm : n ≤ m) (h1 : m ≤ 1000000000000) {F : Int} (hF : 0 ≤ F ∧ F ≤ C) (l : List Ad) : EG (queryG G m F l) C m := by
  have h2 := h.settle hm h1 (by omega)
  unfold queryG
  obtain ⟨S, hS⟩ : ∃ S, S = settleG G m := ⟨_, rfl⟩
  rw [← hS] at h2 ⊢
  have hn := h2.now
  have h0 := h2.n0
  unfold queryS
  split
  · split
    · exact h2
    · exact ⟨h2.now, h2.n0, h2.on, h2.off, h2.dis, h2.sum, h2.dom, h2.dl, h2.tb, (by show 0 ≤ S.now + F ∧ S.now + F ≤ m + C; omega)⟩
  · refine ⟨h2.now, h2.n0, h2.on, h2.off, h2.dis, h2.sum, fun a ha => h2.dom a fun e => ha ((qT_none l S.T).2 e), fun a ha => ?_, fun a t ht => ?_, h2.till⟩
    · cases hq : qT (S.now + F) l S.T a with
      | none => have := (qT_none l S.T).1 hq; obtain ⟨t, ht⟩ := h2.dl a ha; rw [this] at ht; cases ht
      | some t => exact ⟨t, hq⟩
    · rcases qT_val l S.T ht with h3 | h3
      · exact h2.tb a t h3
      · omega
end Go.Proofs.YtcccdlmngddalaaGreat
namespace Go.Proofs.YtcccdlmngddalaaGreat
open Go.RowKit Go.Sort
set_option linter.unusedVariables false
set_option linter.unusedSimpArgs false
theorem GIn.setQ {w w' : World} {p c b : Nat} {G : Gs} {a1 : Option Addr} {n1 k1 : Nat} {a2 : Option Addr} {n2 k2 : Nat} {L : List (Ad × Int)} (h : GIn w p c b G a1 n1 k1 a2 n2 k2 L) {T' : Ad → Option Int} {L' : List (Ad × Int)} (hm : Mod (fun k => k = b) w w') (hc : ClkAt w' c b T' L') : GIn w' p c b { G with T := T' } a1 n1 k1 a2 n2 k2 L' :=
  ⟨h.blk.keep hm fun e => h.ne.2.1 e, h.on.keepT hm h.notAb, h.off.keepT hm h.notAb, hc⟩
def RetB (e : Ending) : Prop := ∃ x : Bool, e = .returned (.bool x)
set_option maxRecDepth 100000 in
set_option maxHeartbeats 4000000 in
theorem gQuery {N : Nat} (SO : SortOk N) {w : World} {p c b : Nat} {G : Gs} {a1 : Option Addr} {n1 k1 : Nat} {a2 : Option Addr} {n2 k2 : Nat} {L : List (Ad × Int)} (h : GIn w p c b G a1 n1 k1 a2 n2 k2 L) (ok : GOk G) (now : Int) (hN : (dueL (nowG G now) L).length ≤ N) (t : Tn) (ht : t.ok) {ad : Option Addr} {n cap : Nat} {l : List Ad} (hl : RT w (.slice ad n cap) l) (hll : l.length ≤ 100) :
    Calls Tryz.prog 19 #[.pointer (some ⟨p, 0, none⟩), .int .i64 now, .agg t.c.toArray, .slice ad n cap] w fun e w' => RetB e ∧ GAt w' p c b (queryG G now t.final l) ∧ Mod (fun k => k = p ∨ k = b) w w' := by
  obtain ⟨S, hS⟩ : ∃ S, S = settleG G now := ⟨_, rfl⟩
  have HQ : Hid (queryG G now t.final l = queryS S t.final l) := Lib.hid (by rw [hS]; rfl)
  obtain ⟨RES, hRES⟩ : ∃ RES, RES = queryG G now t.final l := ⟨_, rfl⟩
  rw [← hRES] at HQ ⊢
  have HSE := Lib.hid hS
  have hSok : GOk S := hS ▸ ok.settle now
  have HSOK := Lib.hid hSok
  have HN := Lib.hid hN
  have hn := hl.len
  have hn1 : n ≤ 100 := by omega
  have HNL := Lib.hid hn.1
  have HT0 := Lib.hid (Blk.new w 32 t.c)
  have HG0 := Lib.hid (h.keep0 ((Mod.refl _ w).alloc (.cells t.c.toArray 32 (0, 0))))
  have HL0 := Lib.hid (hl.keep0 ((Mod.refl _ w).alloc (.cells t.c.toArray 32 (0, 0))))
  have HM0 : Hid (Mod (fun k => k = p ∨ k = b) w (w.alloc (.cells t.c.toArray 32 (0, 0)))) := Lib.hid ((Mod.refl _ w).alloc _)
  have HNE := Lib.hid h.ne
  have HOK := Lib.hid ok
  have HSO := Lib.hid SO
  have HTO := Lib.hid ht
  have HLT : Hid (p < w.heap.size ∧ b < w.heap.size) := Lib.hid ⟨h.blk.lt, h.clk.mp.lt⟩
  have hnow : 0 ≤ S.now ∧ S.now ≤ 1000000000000 := ⟨hSok.now0, hSok.now1⟩
  have hfin := Tn.final_bd ht
  have hlow : -9223372036854775808 ≤ S.now + t.final ∧ S.now + t.final ≤ 9223372036854775807 := by omega
  clear h ok hN hl hn SO ht hS hSok hRES
  go_enter Tryz.func19, Tryz.ntmps19
  go_wp2_with fail
  refine (gsettle HSO.out HG0.out HOK.out now HN.out).mono ?_
  rw [← HSE.out]
  rintro e W1 ⟨rfl, ⟨b1, m1, d1, b2, m2, d2, L1, hg1⟩, hm1⟩
  have HG1 := Lib.hid hg1
  have HT1 := Lib.hid (HT0.out.keep hm1 fun e => by have := HLT.out; omega)
  have HL1 := Lib.hid (HL0.out.keepT hm1 HG0.out.notA)
  have HM1 : Hid (Mod (fun k => k = p ∨ k = b) w W1) := Lib.hid (HM0.out.trans hm1 fun k hk => .inl hk)
  clear hg1 hm1 HG0 HT0 HL0 HM0 HOK HN
  go_wp2_with fail
  have hS : W1.drew.cell? ⟨p, 1, none⟩ = some (.int .i64 S.now) ∧ Blk W1.drew w.heap.size 32 t.c := ⟨HG1.out.blk.cell rfl, HT1.out⟩
  refine wp_region_plan [] [(0, 0), (1, 0), (2, 0), (3, 1), (4, 1), (5, 2), (6, 0), (7, 0)] (fun w' : World => w'.cell? ⟨p, 1, none⟩ = some (.int .i64 S.now) ∧ Blk w' w.heap.size 32 t.c) (by kernel_rfl) (by kernel_rfl) (fun d v c a w h => by first | (cases d <;> exact h) | exact HP d v c a w h) ?_
  repeat ((first | refine plan_skip rfl rfl ?_ | refine plan_pass2 rfl rfl ?_ | refine plan_pass3 rfl rfl ?_ | (refine plan_take (v := ?_) rfl rfl ?_ ?_; rotate_left; focus (intro w0; go_simp; try with_reducible rfl)) | (refine plan_held (v := ?_) rfl rfl hS ?_ ?_; rotate_left; focus (intro w0 hSw; (try dsimp only at hSw); go_split_ands; go_simp; try with_reducible rfl)) | refine plan_skip1 rfl rfl hS ?_); simp only [List.getElem_toArray, List.getElem_cons_succ, List.getElem_cons_zero, Act.put, List.setIfInBounds_toArray, List.set_cons_zero, List.set_cons_succ])
  (refine plan_held (v := .agg t.c.toArray) rfl rfl hS (fun w0 h0 => exec_load_blk _ _ rfl w.heap.size 0 rfl 32 t.c t.c _ w0 h0.2 rfl Tryz.underlying32 rfl tuSz) ?_; try simp only [List.getElem_toArray, List.getElem_cons_succ, List.getElem_cons_zero, Act.put, List.setIfInBounds_toArray, List.set_cons_zero, List.set_cons_succ])
  (refine plan_do rfl rfl fun K hK => ?_; try simp only [List.getElem_toArray, List.getElem_cons_succ, List.getElem_cons_zero])
  go_simp
  refine (Final_s t HTO.out _).mono ?_
  rintro e W2 ⟨rfl, hm2⟩
  have hm12 : Mod (fun _ => False) W1 W2 := (Mod.refl _ W1).drew.trans hm2 fun _ f => f.elim
  have HG2 := Lib.hid (HG1.out.keep0 hm12)
  have HL2 := Lib.hid (HL1.out.keep0 hm12)
  have HM2 : Hid (Mod (fun k => k = p ∨ k = b) w W2) := Lib.hid (HM1.out.trans hm12 fun _ f => f.elim)
  obtain ⟨low, hlw⟩ : ∃ low, low = S.now + t.final := ⟨_, rfl⟩
  have e_low : S.now + t.final = low := hlw.symm
  have w_low : IntKind.i64.wrap low = low := IntWalk.i64_in _ (by omega)
  have HLOW := Lib.hid hlw
  refine hK _ _ ⟨hm2.cell (fun f => f) hS.1, Blk.keep hS.2 hm2 fun f => f⟩ ?_
  clear hK K hm2 hm12 hS HG1 HL1 HM1 HT1 hlw
  try simp only [List.getElem_toArray, List.getElem_cons_succ, List.getElem_cons_zero, Act.put, List.setIfInBounds_toArray, List.set_cons_zero, List.set_cons_succ]
  repeat ((first | refine plan_skip rfl rfl ?_ | refine plan_pass2 rfl rfl ?_ | refine plan_pass3 rfl rfl ?_ | (refine plan_take (v := ?_) rfl rfl ?_ ?_; rotate_left; focus (intro w0; go_simp; try with_reducible rfl))); simp only [List.getElem_toArray, List.getElem_cons_succ, List.getElem_cons_zero, Act.put, List.setIfInBounds_toArray, List.set_cons_zero, List.set_cons_succ])
  refine plan_nil ?_
  by_cases hn0 : n = 0
  · have HL : Hid (l = []) := Lib.hid (List.eq_nil_of_length_eq_zero (by rw [← HNL.out]; exact hn0))
    subst hn0
    cases hex : S.ex with
    | false =>
      have HF : Hid (RES = S) := Lib.hid (by rw [HQ.out]; unfold queryS; rw [if_pos HL.out, if_pos (.inl hex)])
      have x2 : W2.cell? ⟨p, 2, none⟩ = some (.bool false) := by have := HG2.out.blk.cell (j := 2) (u := .bool S.ex) rfl; rwa [hex] at this
      clear hex
      go_wp2
      go_ret
      exact ⟨⟨_, rfl⟩, ⟨b1, m1, d1, b2, m2, d2, L1, by rw [HF.out]; exact HG2.out⟩, HM2.out⟩
    | true =>
      have x2 : W2.cell? ⟨p, 2, none⟩ = some (.bool true) := by have := HG2.out.blk.cell (j := 2) (u := .bool S.ex) rfl; rwa [hex] at this
      have x5 : W2.cell? ⟨p, 5, none⟩ = some (.int .i64 S.till) := HG2.out.blk.cell rfl
      by_cases htl : S.till ≤ low
      · have HF : Hid (RES = S) := Lib.hid (by rw [HQ.out]; unfold queryS; rw [if_pos HL.out, if_pos (.inr (by have := HLOW.out; omega))])
        have dtl : decide (S.till ≤ low) = true := decide_eq_true htl
        clear hex
        go_wp2
        go_ret
        exact ⟨⟨_, rfl⟩, ⟨b1, m1, d1, b2, m2, d2, L1, by rw [HF.out]; exact HG2.out⟩, HM2.out⟩
      · have HF : Hid (RES = { S with till := low }) := Lib.hid (by rw [HQ.out]; unfold queryS; rw [if_pos HL.out, if_neg (by rw [hex]; simp; have := HLOW.out; omega), HLOW.out])
        have dtl : decide (S.till ≤ low) = false := decide_eq_false htl
        clear hex
        go_wp2_with (refine wpList_store_blk1 rfl 3 _ _ rfl p 5 90 _ (.int .i64 low) rfl (by go_simp) HG2.out.blk (by simp [gC]) iSz rfl ?_; intro W3 HB3 HM3)
        go_ret
        have hq : NotA W2 (fun k => k = p) := HG2.out.blk.notA (by decide)
        exact ⟨⟨_, rfl⟩, ⟨b1, m1, d1, b2, m2, d2, L1, by rw [HF.out]; exact ⟨HB3.out, HG2.out.on.keepT HM3.out hq, HG2.out.off.keepT HM3.out hq, HG2.out.clk.keep HM3.out (fun e => HNE.out.1 e.symm) fun e => HNE.out.2.1 e.symm⟩⟩, HM2.out.trans HM3.out fun k hk => .inl (.inl hk)⟩
  · have hn0' : ((n : Int) == 0) = false := by simp; omega
    have HF : Hid (RES = { S with T := qT low l S.T }) := Lib.hid (by rw [HQ.out]; unfold queryS; rw [if_neg (fun e => hn0 (by rw [HNL.out, e]; rfl)), HLOW.out])
    clear HQ
    go_wp2_with fail
    go_loopw [10, 50] (fun v10 iv wr => ∃ (j : Nat) (L' : List (Ad × Int)) (y : Bool), j ≤ n ∧ iv = .int .i64 (j : Int) ∧ v10 = .bool y ∧ GIn wr p c b { S with T := qT low (l.take j) S.T } b1 m1 d1 b2 m2 d2 L' ∧ Mod (fun k => k = b) W2 wr) (fun _ iv _ => n - (intOf iv).toNat)
    case atStart => exact ⟨0, L1, false, Nat.zero_le _, rfl, rfl, HG2.out, Mod.refl _ _⟩
    case round =>
      obtain ⟨j, L', y, hj, rfl, rfl, hI, hm⟩ := hrel
      have HI := Lib.hid hI
      have HM := Lib.hid hm
      clear hI hm
      by_cases hlt : j < n
      · obtain ⟨x, hx⟩ : ∃ x, l[j]? = some x := ⟨_, List.getElem?_eq_getElem (by rw [← HNL.out]; exact hlt)⟩
        have hrow : RowA wr (fun _ => True) (.slice ad n cap) l := HL2.out.keepT HM.out HG2.out.notAb
        obtain ⟨g, o, cap1, e1, q1, q2, hxa⟩ := hrow.rd.at (j := j) (by rw [← HNL.out]; exact hlt)
        injection e1 with e1 e1a e1b
        subst e1
        have HXR := Lib.hid (hxa j x hx)
        have HXG := Lib.hid (qT_take (low := low) (T := S.T) hx)
        have HXS := Lib.hid x.c_sz
        have HX1 := Lib.hid x.c_one
        have HNB0 := Lib.hid (Blk.new wr 36 (adrC false z16))
        have HFIT : Hid (0 + x.c.length ≤ (adrC false z16).length) := Lib.hid (by rw [x.c_len]; decide)
        have HBS : Hid (b < wr.heap.size) := Lib.hid HI.out.clk.mp.lt
        obtain ⟨TT, hTT⟩ : ∃ TT, TT = qT low (l.take j) S.T := ⟨_, rfl⟩
        rw [← hTT] at HI HXG
        clear e1a e1b q1 q2 hxa hx hrow hTT
        go_wp2_with (first
          | (refine wpList_load_midG rfl _ _ rfl g (o + j * 17) rfl x.c _ HXR.out Tryz.underlying36 rfl HXS.out ?_)
          | (refine wpList_store_blk rfl _ _ _ rfl wr.heap.size 0 36 (adrC false z16) x.c rfl rfl HNB0.out HFIT.out HXS.out HX1.out ?_; intro w3 HB3 HM3; have HB := Lib.hid (splice_all HB3.out (by rw [x.c_len]; rfl)); have HM4 : Hid (Mod (fun _ => False) wr w3) := Lib.hid (((Mod.refl _ _).alloc _).trans HM3.out fun x hx => .inr (by omega)); have HI3 := Lib.hid (HI.out.keep0 HM4.out)))
        have hS : w3.drew.cell? ⟨p, 6, none⟩ = some (.pointer (some ⟨c, 0, none⟩)) ∧ Blk w3.drew wr.heap.size 36 x.c := ⟨HI3.out.blk.cell rfl, HB.out⟩
        refine wp_region_plan [] [(0, 0), (1, 0), (2, 0), (3, 1), (4, 1), (5, 2), (6, 2), (7, 0), (8, 0), (9, 0), (10, 0), (11, 0)] (fun w' : World => w'.cell? ⟨p, 6, none⟩ = some (.pointer (some ⟨c, 0, none⟩)) ∧ Blk w' wr.heap.size 36 x.c) (by kernel_rfl) (by kernel_rfl) (fun d v c a w h => by first | (cases d <;> exact h) | exact HP d v c a w h) ?_
        repeat ((first | refine plan_skip rfl rfl ?_ | refine plan_pass2 rfl rfl ?_ | refine plan_pass3 rfl rfl ?_ | (refine plan_take (v := ?_) rfl rfl ?_ ?_; rotate_left; focus (intro w0; go_simp; try with_reducible rfl)) | (refine plan_held (v := ?_) rfl rfl hS ?_ ?_; rotate_left; focus (intro w0 hSw; (try dsimp only at hSw); go_split_ands; go_simp; try with_reducible rfl)) | refine plan_skip1 rfl rfl hS ?_); simp only [List.getElem_toArray, List.getElem_cons_succ, List.getElem_cons_zero, Act.put, List.setIfInBounds_toArray, List.set_cons_zero, List.set_cons_succ])
        (refine plan_held (v := .agg x.c.toArray) rfl rfl hS (fun w0 h0 => exec_load_blk _ _ rfl wr.heap.size 0 rfl 36 x.c x.c _ w0 h0.2 (List.take_of_length_le (Nat.le_refl _)) Tryz.underlying36 rfl HXS.out) ?_; try simp only [List.getElem_toArray, List.getElem_cons_succ, List.getElem_cons_zero, Act.put, List.setIfInBounds_toArray, List.set_cons_zero, List.set_cons_succ])
        repeat ((first | refine plan_skip rfl rfl ?_ | refine plan_pass2 rfl rfl ?_ | refine plan_pass3 rfl rfl ?_ | (refine plan_take (v := ?_) rfl rfl ?_ ?_; rotate_left; focus (intro w0; go_simp; try with_reducible rfl)) | (refine plan_held (v := ?_) rfl rfl hS ?_ ?_; rotate_left; focus (intro w0 hSw; (try dsimp only at hSw); go_split_ands; go_simp; try with_reducible rfl)) | refine plan_skip1 rfl rfl hS ?_); simp only [List.getElem_toArray, List.getElem_cons_succ, List.getElem_cons_zero, Act.put, List.setIfInBounds_toArray, List.set_cons_zero, List.set_cons_succ])
        (refine plan_do rfl rfl fun K hK => ?_; try simp only [List.getElem_toArray, List.getElem_cons_succ, List.getElem_cons_zero])
        go_simp
        refine (key_ad x _).mono ?_
        rintro e W4 ⟨rfl, hm1⟩
        have hm34 : Mod (fun _ => False) w3 W4 := (Mod.refl _ w3).drew.trans hm1 fun _ f => f.elim
        have HI4 := Lib.hid (HI3.out.keep0 hm34)
        have HB4 := Lib.hid (HB.out.keep hm34 fun f => f)
        have HM5 : Hid (Mod (fun k => k = b) W2 W4) := Lib.hid ((HM.out.trans HM4.out fun _ f => f.elim).trans hm34 fun _ f => f.elim)
        refine hK _ _ ⟨hm1.cell (fun f => f) hS.1, Blk.keep hS.2 hm1 fun f => f⟩ ?_
        clear hK K hm1 hm34 hS HI3 HB HM HM3 HB3
        try simp only [List.getElem_toArray, List.getElem_cons_succ, List.getElem_cons_zero, Act.put, List.setIfInBounds_toArray, List.set_cons_zero, List.set_cons_succ]
        have hS : W4.cell? ⟨p, 6, none⟩ = some (.pointer (some ⟨c, 0, none⟩)) ∧ Blk W4 wr.heap.size 36 x.c := ⟨HI4.out.blk.cell rfl, HB4.out⟩
        (refine plan_do rfl rfl fun K hK => ?_; try simp only [List.getElem_toArray, List.getElem_cons_succ, List.getElem_cons_zero])
        go_simp
        refine (cAt HI4.out.clk x).mono ?_
        rintro e W5 ⟨at_, is, rfl, hat, rfl⟩
        have HAT : Hid (x.good = true → is = (TT x).isSome ∧ at_ = (TT x).getD 0) := Lib.hid hat
        refine hK _ _ hS ?_
        clear hK K hat
        try simp only [List.getElem_toArray, List.getElem_cons_succ, List.getElem_cons_zero, Act.put, List.setIfInBounds_toArray, List.set_cons_zero, List.set_cons_succ]
        repeat ((first | refine plan_skip rfl rfl ?_ | refine plan_pass2 rfl rfl ?_ | refine plan_pass3 rfl rfl ?_ | (refine plan_take (v := ?_) rfl rfl ?_ ?_; rotate_left; focus (intro w0; go_simp; try with_reducible rfl)) | (refine plan_held (v := ?_) rfl rfl hS ?_ ?_; rotate_left; focus (intro w0 hSw; (try dsimp only at hSw); go_split_ands; go_simp; try with_reducible rfl)) | refine plan_skip1 rfl rfl hS ?_); simp only [List.getElem_toArray, List.getElem_cons_succ, List.getElem_cons_zero, Act.put, List.setIfInBounds_toArray, List.set_cons_zero, List.set_cons_succ])
        refine plan_nil ?_
        clear hS
        by_cases hdo : x.good = true ∧ low < (TT x).getD low
        · have hgood := hdo.1
          obtain ⟨tt, htt, hlt2⟩ : ∃ tt, TT x = some tt ∧ low < tt := by
            cases hq : TT x with
            | none => rw [hq] at hdo; simp at hdo
            | some tt => exact ⟨tt, rfl, by rw [hq] at hdo; exact hdo.2⟩
          obtain ⟨e1, e2⟩ := HAT.out hgood
          rw [htt] at e1 e2
          simp at e1 e2
          subst e1 e2
          have HQS : Hid (qS TT low x = upd TT x (some low)) := Lib.hid (if_pos hdo)
          have HGX := Lib.hid hgood
          clear HAT hdo htt
          go_wp2_with (first
            | (refine wpList_load_blk rfl _ _ rfl wr.heap.size 0 rfl 36 x.c x.c _ HB4.out (List.take_of_length_le (Nat.le_refl _)) Tryz.underlying36 rfl HXS.out ?_)
            | (go_at_call 55; refine (Good_ad x _).mono ?_; rw [HGX.out]; rintro e W6 ⟨rfl, hm6⟩; have HI6 := Lib.hid (HI4.out.keep0 hm6); have HB6 := Lib.hid (HB4.out.keep hm6 fun f => f); have HM6 : Hid (Mod (fun k => k = b) W2 W6) := Lib.hid (HM5.out.trans hm6 fun _ f => f.elim); clear hm6))
          have hS : W6.drew.cell? ⟨p, 6, none⟩ = some (.pointer (some ⟨c, 0, none⟩)) ∧ Blk W6.drew wr.heap.size 36 x.c := ⟨HI6.out.blk.cell rfl, HB6.out⟩
          refine wp_region_plan [] [(0, 0), (1, 0), (2, 0), (3, 1), (4, 1), (6, 0), (5, 2), (7, 2)] (fun w' : World => w'.cell? ⟨p, 6, none⟩ = some (.pointer (some ⟨c, 0, none⟩)) ∧ Blk w' wr.heap.size 36 x.c) (by kernel_rfl) (by kernel_rfl) (fun d v c a w h => by first | (cases d <;> exact h) | exact HP d v c a w h) ?_
          repeat ((first | refine plan_skip rfl rfl ?_ | refine plan_pass2 rfl rfl ?_ | refine plan_pass3 rfl rfl ?_ | (refine plan_take (v := ?_) rfl rfl ?_ ?_; rotate_left; focus (intro w0; go_simp; try with_reducible rfl)) | (refine plan_held (v := ?_) rfl rfl hS ?_ ?_; rotate_left; focus (intro w0 hSw; (try dsimp only at hSw); go_split_ands; go_simp; try with_reducible rfl)) | refine plan_skip1 rfl rfl hS ?_); simp only [List.getElem_toArray, List.getElem_cons_succ, List.getElem_cons_zero, Act.put, List.setIfInBounds_toArray, List.set_cons_zero, List.set_cons_succ])
          (refine plan_held (v := .agg x.c.toArray) rfl rfl hS (fun w0 h0 => exec_load_blk _ _ rfl wr.heap.size 0 rfl 36 x.c x.c _ w0 h0.2 (List.take_of_length_le (Nat.le_refl _)) Tryz.underlying36 rfl HXS.out) ?_; try simp only [List.getElem_toArray, List.getElem_cons_succ, List.getElem_cons_zero, Act.put, List.setIfInBounds_toArray, List.set_cons_zero, List.set_cons_succ])
          repeat ((first | refine plan_skip rfl rfl ?_ | refine plan_pass2 rfl rfl ?_ | refine plan_pass3 rfl rfl ?_ | (refine plan_take (v := ?_) rfl rfl ?_ ?_; rotate_left; focus (intro w0; go_simp; try with_reducible rfl)) | (refine plan_held (v := ?_) rfl rfl hS ?_ ?_; rotate_left; focus (intro w0 hSw; (try dsimp only at hSw); go_split_ands; go_simp; try with_reducible rfl)) | refine plan_skip1 rfl rfl hS ?_); simp only [List.getElem_toArray, List.getElem_cons_succ, List.getElem_cons_zero, Act.put, List.setIfInBounds_toArray, List.set_cons_zero, List.set_cons_succ])
          (refine plan_do rfl rfl fun K hK => ?_; try simp only [List.getElem_toArray, List.getElem_cons_succ, List.getElem_cons_zero])
          go_simp
          refine (key_ad x _).mono ?_
          rintro e W7 ⟨rfl, hm1⟩
          have hm67 : Mod (fun _ => False) W6 W7 := (Mod.refl _ W6).drew.trans hm1 fun _ f => f.elim
          have HI7 := Lib.hid (HI6.out.keep0 hm67)
          have HB7 := Lib.hid (HB6.out.keep hm67 fun f => f)
          have HM7 : Hid (Mod (fun k => k = b) W2 W7) := Lib.hid (HM6.out.trans hm67 fun _ f => f.elim)
          refine hK _ _ ⟨hm1.cell (fun f => f) hS.1, Blk.keep hS.2 hm1 fun f => f⟩ ?_
          clear hK K hm1 hm67 hS HI4 HI6 HB4 HB6 HM5 HM6
          try simp only [List.getElem_toArray, List.getElem_cons_succ, List.getElem_cons_zero, Act.put, List.setIfInBounds_toArray, List.set_cons_zero, List.set_cons_succ]
          (refine plan_do rfl rfl fun K hK => ?_; try simp only [List.getElem_toArray, List.getElem_cons_succ, List.getElem_cons_zero])
          go_simp
          refine (cSet HI7.out.clk HGX.out low).mono ?_
          rintro e W8 ⟨⟨y8, rfl⟩, hc8, hm8⟩
          have HI8 := Lib.hid (HI7.out.setQ hm8 hc8)
          have HM8 : Hid (Mod (fun k => k = b) W2 W8) := Lib.hid (HM7.out.trans hm8 fun k hk => .inl hk)
          refine hK _ _ ⟨hm8.cell (fun e => HI7.out.ne.2.1 e) (HI7.out.blk.cell rfl), Blk.keep HB7.out hm8 fun e => by have := HBS.out; omega⟩ ?_
          clear hK K hc8 hm8
          try simp only [List.getElem_toArray, List.getElem_cons_succ, List.getElem_cons_zero, Act.put, List.setIfInBounds_toArray, List.set_cons_zero, List.set_cons_succ]
          refine plan_nil ?_
          go_wp2
          go_roundw
          case rel => exact ⟨j + 1, aput L' x low, true, by omega, by go_num, rfl, by rw [HXG.out, HQS.out]; exact HI8.out, HM8.out⟩
          case measure => simp [intOf]; omega
        · have HQS : Hid (qS TT low x = TT) := Lib.hid (if_neg hdo)
          cases is with
          | false =>
            clear HAT hdo
            go_wp2
            go_roundw
            case rel => exact ⟨j + 1, L', y, by omega, by go_num, rfl, by rw [HXG.out, HQS.out]; exact HI4.out, HM5.out⟩
            case measure => simp [intOf]; omega
          | true =>
            cases hgx : x.good with
            | false =>
              have HGX := Lib.hid hgx
              clear HAT hdo hgx
              go_wp2_with (first
              | (refine wpList_load_blk rfl _ _ rfl wr.heap.size 0 rfl 36 x.c x.c _ HB4.out (List.take_of_length_le (Nat.le_refl _)) Tryz.underlying36 rfl HXS.out ?_)
              | (go_at_call 55; refine (Good_ad x _).mono ?_; rw [HGX.out]; rintro e W6 ⟨rfl, hm6⟩; have HI6 := Lib.hid (HI4.out.keep0 hm6); have HM6 : Hid (Mod (fun k => k = b) W2 W6) := Lib.hid (HM5.out.trans hm6 fun _ f => f.elim); clear hm6))
              go_roundw
              case rel => exact ⟨j + 1, L', y, by omega, by go_num, rfl, by rw [HXG.out, HQS.out]; exact HI6.out, HM6.out⟩
              case measure => simp [intOf]; omega
            | true =>
              have HGX := Lib.hid hgx
              have hle : ¬ at_ > low := by
                obtain ⟨e1, e2⟩ := HAT.out hgx
                cases hq : TT x with
                | none => rw [hq] at e1; simp at e1
                | some tt =>
                  rw [hq] at e2
                  simp at e2
                  subst e2
                  intro hgt
                  exact hdo ⟨hgx, by rw [hq]; exact hgt⟩
              clear HAT hdo hgx
              go_wp2_with (first
              | (refine wpList_load_blk rfl _ _ rfl wr.heap.size 0 rfl 36 x.c x.c _ HB4.out (List.take_of_length_le (Nat.le_refl _)) Tryz.underlying36 rfl HXS.out ?_)
              | (go_at_call 55; refine (Good_ad x _).mono ?_; rw [HGX.out]; rintro e W6 ⟨rfl, hm6⟩; have HI6 := Lib.hid (HI4.out.keep0 hm6); have HM6 : Hid (Mod (fun k => k = b) W2 W6) := Lib.hid (HM5.out.trans hm6 fun _ f => f.elim); clear hm6))
              go_roundw
              case rel => exact ⟨j + 1, L', y, by omega, by go_num, rfl, by rw [HXG.out, HQS.out]; exact HI6.out, HM6.out⟩
              case measure => simp [intOf]; omega
      · obtain rfl : j = n := by omega
        have HT : Hid (l.take j = l) := Lib.hid (by rw [HNL.out, List.take_length])
        go_wp2
        go_ret
        exact ⟨⟨_, rfl⟩, ⟨b1, m1, d1, b2, m2, d2, L', by rw [HF.out]; have := HI.out; rwa [HT.out] at this⟩, HM2.out.trans HM.out fun k hk => .inl (.inr hk)⟩
end Go.Proofs.YtcccdlmngddalaaGreat
namespace Go.Proofs.YtcccdlmngddalaaGreat
open Go.RowKit Go.Sort
set_option linter.unusedVariables false
set_option linter.unusedSimpArgs false
theorem exec_ne_self {ev : Operand → Value} {op : Oper} {x y : Operand} {q : TypeId} (ho : op.op = .binOp .neq 36 x y q) (a : Ad) (ex : ev x = .agg a.c.toArray) (ey : ev y = .agg a.c.toArray) (w : World) :
    (execOp ev op).run Tryz.prog w = .ok (.value (.bool false)) w := by
  simpa using exec_ne_ad ho a a ex ey w
set_option maxRecDepth 100000 in
set_option maxHeartbeats 1000000 in
theorem sameL {w : World} {a1 : Option Addr} {n1 c1 : Nat} {a2 : Option Addr} {n2 c2 : Nat} {l : List Ad} (h1 : RdA w (.slice a1 n1 c1) l) (h2 : RdA w (.slice a2 n2 c2) l) : Calls Tryz.prog 57 #[.slice a1 n1 c1, .slice a2 n2 c2] w fun e w' => e = .returned (.bool true) ∧ Mod (fun _ => False) w w' := by
  have e1 : n1 = l.length ∧ n1 ≤ c1 ∧ c1 ≤ maxLen := by
    obtain ⟨a', c', e, h1, h2, _⟩ := h1
    injection e with _ e2 e3
    omega
  have e2 : n2 = l.length := by
    obtain ⟨a', c', e, h1, h2, _⟩ := h2
    injection e with _ e2 e3
  obtain rfl : n2 = n1 := by omega
  have HN := Lib.hid e1.1
  have hnm : n2 ≤ 9223372036854775807 := by have := e1.2; unfold maxLen at this; omega
  have H1 := Lib.hid h1
  have H2 := Lib.hid h2
  clear h1 h2 e1 e2
  go_enter Tryz.func57, Tryz.ntmps57
  go_wp2_with fail
  go_loopw [5] (fun iv wr => ∃ j : Nat, j ≤ n2 ∧ iv = .int .i64 (j : Int) ∧ Mod (fun _ => False) w wr) (fun iv _ => n2 - (intOf iv).toNat)
  case atStart => exact ⟨0, Nat.zero_le _, rfl, Mod.refl _ _⟩
  case round =>
    obtain ⟨j, hj, rfl, hmw⟩ := hrel
    have HMW := Lib.hid hmw
    clear hmw
    by_cases hlt : j < n2
    · obtain ⟨g, o, cap, e, hc1, hc2, hra⟩ := H1.out.at (j := j) (by rw [← HN.out]; exact hlt)
      simp only [Value.slice.injEq] at e
      obtain ⟨rfl, -, rfl⟩ := e
      obtain ⟨g2, o2, cap2, e, hc3, hc4, hrb⟩ := H2.out.at (j := j) (by rw [← HN.out]; exact hlt)
      simp only [Value.slice.injEq] at e
      obtain ⟨rfl, -, rfl⟩ := e
      obtain ⟨q, hq⟩ : ∃ q, l[j]? = some q := ⟨_, List.getElem?_eq_getElem (by rw [← HN.out]; exact hlt)⟩
      have hS : wr.drew.rangeAt g (o + j * 17) q.c ∧ wr.drew.rangeAt g2 (o2 + j * 17) q.c := ⟨keepRange HMW.out (hra j q hq), keepRange HMW.out (hrb j q hq)⟩
      have HQZ := Lib.hid q.c_sz
      clear hq hra hrb hc1 hc2 hc3 hc4
      have q1 : (j : Int) < (n2 : Int) := by omega
      go_wp2_with fail
      refine wp_region_plan [] [(0, 0), (1, 0), (2, 0), (3, 1), (4, 0), (5, 0), (6, 0), (7, 1), (8, 0)] (fun w' : World => w'.rangeAt g (o + j * 17) q.c ∧ w'.rangeAt g2 (o2 + j * 17) q.c) (by kernel_rfl) (by kernel_rfl) (fun d v c a w h => by first | (cases d <;> exact h) | exact HP d v c a w h) ?_
      repeat ((first | refine plan_skip rfl rfl ?_ | refine plan_pass2 rfl rfl ?_ | refine plan_pass3 rfl rfl ?_ | (refine plan_take (v := ?_) rfl rfl ?_ ?_; rotate_left; focus (intro w0; go_simp; try with_reducible rfl)) | (refine plan_held (v := ?_) rfl rfl hS ?_ ?_; rotate_left; focus (intro w0 hSw; (try dsimp only at hSw); go_split_ands; go_simp; try with_reducible rfl)) | refine plan_skip1 rfl rfl hS ?_); simp only [List.getElem_toArray, List.getElem_cons_succ, List.getElem_cons_zero, Act.put, List.setIfInBounds_toArray, List.set_cons_zero, List.set_cons_succ])
      (refine plan_held (v := .agg q.c.toArray) rfl rfl hS (fun w0 h0 => exec_load_mid _ _ rfl g (o + j * 17) rfl q.c _ w0 h0.1 Tryz.underlying36 rfl HQZ.out) ?_; try simp only [List.getElem_toArray, List.getElem_cons_succ, List.getElem_cons_zero, Act.put, List.setIfInBounds_toArray, List.set_cons_zero, List.set_cons_succ])
      repeat ((first | refine plan_skip rfl rfl ?_ | refine plan_pass2 rfl rfl ?_ | refine plan_pass3 rfl rfl ?_ | (refine plan_take (v := ?_) rfl rfl ?_ ?_; rotate_left; focus (intro w0; go_simp; try with_reducible rfl)) | (refine plan_held (v := ?_) rfl rfl hS ?_ ?_; rotate_left; focus (intro w0 hSw; (try dsimp only at hSw); go_split_ands; go_simp; try with_reducible rfl)) | refine plan_skip1 rfl rfl hS ?_); simp only [List.getElem_toArray, List.getElem_cons_succ, List.getElem_cons_zero, Act.put, List.setIfInBounds_toArray, List.set_cons_zero, List.set_cons_succ])
      (refine plan_held (v := .agg q.c.toArray) rfl rfl hS (fun w0 h0 => exec_load_mid _ _ rfl g2 (o2 + j * 17) rfl q.c _ w0 h0.2 Tryz.underlying36 rfl HQZ.out) ?_; try simp only [List.getElem_toArray, List.getElem_cons_succ, List.getElem_cons_zero, Act.put, List.setIfInBounds_toArray, List.set_cons_zero, List.set_cons_succ])
      refine plan_take (v := .bool false) rfl rfl (exec_ne_self rfl q rfl rfl) ?_
      try simp only [List.getElem_toArray, List.getElem_cons_succ, List.getElem_cons_zero, Act.put, List.setIfInBounds_toArray, List.set_cons_zero, List.set_cons_succ]
      refine plan_nil ?_
      go_wp2
      go_roundw
      case rel => exact ⟨j + 1, by omega, by go_num, HMW.out.drew⟩
      case measure => simp [intOf]; omega
    · have q1 : ¬ (j : Int) < (n2 : Int) := by omega
      go_wp2
      go_ret
      exact ⟨rfl, HMW.out⟩
set_option maxRecDepth 100000 in
set_option maxHeartbeats 1000000 in
theorem sameSt {w : World} (ex : Bool) {a1 : Option Addr} {n1 c1 : Nat} {a2 : Option Addr} {n2 c2 : Nat} {a3 : Option Addr} {n3 c3 : Nat} {a4 : Option Addr} {n4 c4 : Nat} {l m : List Ad} (h1 : RdA w (.slice a1 n1 c1) l) (h2 : RdA w (.slice a2 n2 c2) m) (h3 : RdA w (.slice a3 n3 c3) l) (h4 : RdA w (.slice a4 n4 c4) m) :
    Calls Tryz.prog 21 #[.agg #[.bool ex, .slice a1 n1 c1, .slice a2 n2 c2], .agg #[.bool ex, .slice a3 n3 c3, .slice a4 n4 c4]] w fun e w' => e = .returned (.bool true) ∧ Mod (fun _ => False) w w' := by
  have hb : Blk ((w.alloc (.cells #[.bool ex, .slice a1 n1 c1, .slice a2 n2 c2] 26 (0, 0))).alloc (.cells #[.bool ex, .slice a3 n3 c3, .slice a4 n4 c4] 26 (0, 0))) w.heap.size 26 [.bool ex, .slice a1 n1 c1, .slice a2 n2 c2] := (Blk.new w 26 [.bool ex, .slice a1 n1 c1, .slice a2 n2 c2]).alloc _
  have hb2 : Blk ((w.alloc (.cells #[.bool ex, .slice a1 n1 c1, .slice a2 n2 c2] 26 (0, 0))).alloc (.cells #[.bool ex, .slice a3 n3 c3, .slice a4 n4 c4] 26 (0, 0))) (w.heap.size + 1) 26 [.bool ex, .slice a3 n3 c3, .slice a4 n4 c4] := by
    have := Blk.new (w.alloc (.cells #[.bool ex, .slice a1 n1 c1, .slice a2 n2 c2] 26 (0, 0))) 26 [.bool ex, .slice a3 n3 c3, .slice a4 n4 c4]
    rwa [show (w.alloc (.cells #[.bool ex, .slice a1 n1 c1, .slice a2 n2 c2] 26 (0, 0))).heap.size = w.heap.size + 1 by simp] at this
  have hm : Mod (fun _ => False) w ((w.alloc (.cells #[.bool ex, .slice a1 n1 c1, .slice a2 n2 c2] 26 (0, 0))).alloc (.cells #[.bool ex, .slice a3 n3 c3, .slice a4 n4 c4] 26 (0, 0))) := ((Mod.refl _ _).alloc _).alloc _
  have x0 := hb.cell (j := 0) rfl
  have x1 := hb.cell (j := 1) rfl
  have y0 := hb2.cell (j := 0) rfl
  have y1 := hb2.cell (j := 1) rfl
  have HB := Lib.hid hb
  have HB2 := Lib.hid hb2
  have HM := Lib.hid hm
  have H1 := Lib.hid (h1.keep0 hm)
  have H2 := Lib.hid (h2.keep0 hm)
  have H3 := Lib.hid (h3.keep0 hm)
  have H4 := Lib.hid (h4.keep0 hm)
  clear hb hb2 hm h1 h2 h3 h4
  go_enter Tryz.func21, Tryz.ntmps21
  cases ex
  all_goals
    go_wp2_with fail
    refine (sameL H1.out H3.out).mono ?_
    rintro e W1 ⟨rfl, hm1⟩
    have z1 := (HB.out.keep hm1 fun f => f).cell (j := 2) rfl
    have z2 := (HB2.out.keep hm1 fun f => f).cell (j := 2) rfl
    have HM1 := Lib.hid hm1
    clear hm1
    go_wp2_with fail
    refine (sameL (H2.out.keep0 HM1.out) (H4.out.keep0 HM1.out)).mono ?_
    rintro e W2 ⟨rfl, hm2⟩
    have HM2 := Lib.hid hm2
    clear hm2
    go_wp2
    go_ret
    exact ⟨rfl, (HM.out.trans HM1.out fun _ f => f.elim).trans HM2.out fun _ f => f.elim⟩
end Go.Proofs.YtcccdlmngddalaaGreat
namespace Go.Proofs.YtcccdlmngddalaaGreat
open Go.RowKit Go.Sort
set_option linter.unusedVariables false
set_option linter.unusedSimpArgs false
abbrev zAct : List Value := [.int .i64 0, .int .i64 0, .int .i64 0, .int .i64 0, .bool false, .int .u8 0, .int .u8 0, .int .u8 0, .int .u8 0, .int .u8 0, .int .u8 0, .int .u8 0, .int .u8 0, .int .u8 0, .int .u8 0, .int .u8 0, .int .u8 0, .int .u8 0, .int .u8 0, .int .u8 0, .int .u8 0, .slice none 0 0, .bool false]
theorem EG.hN {G : Gs} {M n : Int} (h : EG G M n) (now : Int) {w : World} {p c b : Nat} : ∀ L : List (Ad × Int), (∀ a1 n1 k1 a2 n2 k2, GIn w p c b G a1 n1 k1 a2 n2 k2 L → (dueL (nowG G now) L).length ≤ 49) := fun L a1 n1 k1 a2 n2 k2 hg => Nat.le_trans (h.due hg.clk.tl _) (by decide)
/-- a hearing of the law's -/
theorem hear_e {w : World} {p c b : Nat} {G : Gs} {C m0 : Int} (hg : GAt w p c b G) (h : EG G C m0) (hC : C ≤ 3000000) (m : Int) (hm : m0 ≤ m) (hm1 : m ≤ 1000000000000) (t : Tn) (ht : t.ok) (htC : t.member ≤ C) (older k : Int) (g : Ad) {ad : Option Addr} {n cap : Nat} {l : List Ad} (hr : RT w (.slice ad n cap) l) (hl : l.length ≤ 5) :
    Calls Tryz.prog 9 #[.pointer (some ⟨p, 0, none⟩), .int .i64 m, .agg t.c.toArray, .int .i64 older, .agg (recC k g (.slice ad n cap)).toArray] w fun e w' => RetH (hearG G m t.member older k l).2 e ∧ GAt w' p c b (hearG G m t.member older k l).1 ∧ EG (hearG G m t.member older k l).1 C m ∧ Mod (fun k => k = p ∨ k = b) w w' := by
  have hM := Tn.member_bd ht
  have hE := h.hear (M := t.member) hm hm1 (by omega) older k l
  have hok := h.ok (by omega) (by have := h.now; omega)
  have hs := h.sum
  obtain ⟨a1, n1, k1, a2, n2, k2, L, hg⟩ := hg
  refine (gHear sortOk hg hok m (Nat.le_trans (h.due hg.clk.tl _) (by decide)) t ht older k g hr (by omega) (by omega)).mono ?_
  rintro e w' ⟨h1, h2, h3⟩
  exact ⟨h1, h2, hE, h3⟩
/-- a query of the law's -/
theorem query_e {w : World} {p c b : Nat} {G : Gs} {C m0 : Int} (hg : GAt w p c b G) (h : EG G C m0) (hC : C ≤ 3000000) (m : Int) (hm : m0 ≤ m) (hm1 : m ≤ 1000000000000) (t : Tn) (ht : t.ok) (htC : t.member ≤ C ∧ t.final ≤ C) {ad : Option Addr} {n cap : Nat} {l : List Ad} (hr : RT w (.slice ad n cap) l) (hl : l.length ≤ 5) :
    Calls Tryz.prog 19 #[.pointer (some ⟨p, 0, none⟩), .int .i64 m, .agg t.c.toArray, .slice ad n cap] w fun e w' => RetB e ∧ GAt w' p c b (queryG G m t.final l) ∧ EG (queryG G m t.final l) C m ∧ Mod (fun k => k = p ∨ k = b) w w' := by
  have hM := Tn.member_bd ht
  have hF := Tn.final_bd ht
  have hE := h.query hm hm1 (F := t.final) (by omega) l
  have hok := h.ok (by omega) (by have := h.now; omega)
  obtain ⟨a1, n1, k1, a2, n2, k2, L, hg⟩ := hg
  refine (gQuery sortOk hg hok m (Nat.le_trans (h.due hg.clk.tl _) (by decide)) t ht hr (by omega)).mono ?_
  rintro e w' ⟨h1, h2, h3⟩
  exact ⟨h1, h2, hE, h3⟩
theorem field_rec (x : GA) (v : Value) (w : World) : (Instr.field 46 (.agg (x.c v).toArray) 3).run Tryz.prog w = .ok (.agg (recC x.rk x.g v).toArray) w := by
  have ha : ∀ w, (isAgg 38).run Tryz.prog w = .ok true w := fun w => by simp [isAgg, run_underlying Tryz.underlying38]
  obtain ⟨i, hi1, hi2⟩ := Option.map_eq_some_iff.1 rcSz
  have hz : ∀ w, (sizeOf 38).run Tryz.prog w = .ok 19 w := fun w => by simp [sizeOf, typeInfo, hi1, hi2, Result.andThen]
  have hx : ((x.c v).drop 3).take 19 = recC x.rk x.g v := by
    show (recC x.rk x.g v ++ [Value.bool x.all]).take 19 = _
    rw [List.take_left' (recC_len x.rk x.g v)]
  simp [Instr.field, run_underlying Tryz.underlying46, asAgg, part, Sem.run_bind, ha, hz, Result.andThen, hx]
theorem exec_field_rec {ev : Operand → Value} {op : Oper} {o : Operand} (ho : op.op = .field 46 o 3) (x : GA) (v : Value) (ex : ev o = .agg (x.c v).toArray) (w : World) : (execOp ev op).run Tryz.prog w = .ok (.value (.agg (recC x.rk x.g v).toArray)) w := by
  have := field_rec x v w
  simp only [execOp, ho, ex, Sem.run_bind, this, Result.andThen]
  rfl
theorem far2 {w w' : World} {p c b q d e : Nat} {G H : Gs} (h : GAt w p c b G) (h' : GAt w q d e H) (hm : Mod (fun k => k = q ∨ k = e) w w') (h1 : p ≠ q) (h2 : b ≠ e) : GAt w' p c b G := by
  obtain ⟨_, _, _, _, _, _, _, hh⟩ := h'
  obtain ⟨es, ck, hb, _⟩ := hh.clk.mp
  exact h.far hm h1 h2 hh.blk hb
/-- both groups in memory, the tune -/
structure LzO (w wr : World) (p c b q d e : Nat) (G H : Gs) (t : Tn) : Prop where
  g : GAt wr p c b G
  h : GAt wr q d e H
  tn : Blk wr w.heap.size 32 t.c
  mod : Mod (fun _ => False) w wr
/-- where they lie -/
structure LzN (w : World) (p b q e : Nat) : Prop where
  n1 : w.heap.size < p
  n2 : w.heap.size < b
  n3 : w.heap.size < q
  n4 : w.heap.size < e
  n5 : p ≠ q
  n6 : b ≠ e
section
variable {w wr w' : World} {p c b q d e : Nat} {G H G' H' : Gs} {t : Tn}
theorem LzO.keep0 (h : LzO w wr p c b q d e G H t) (hm : Mod (fun _ => False) wr w') : LzO w w' p c b q d e G H t := ⟨h.g.keep0 hm, h.h.keep0 hm, h.tn.keep hm fun f => f, h.mod.trans hm fun _ f => f.elim⟩
theorem LzO.gch (h : LzO w wr p c b q d e G H t) (n : LzN w p b q e) (hm : Mod (fun k => k = p ∨ k = b) wr w') (hg : GAt w' p c b G') : LzO w w' p c b q d e G' H t :=
  ⟨hg, far2 h.h h.g hm n.n5.symm n.n6.symm, h.tn.keep hm fun f => f.elim (fun f => by have := n.n1; omega) fun f => by have := n.n2; omega, h.mod.trans hm fun k hk => .inr (by have := n.n1; have := n.n2; omega)⟩
theorem LzO.hch (h : LzO w wr p c b q d e G H t) (n : LzN w p b q e) (hm : Mod (fun k => k = q ∨ k = e) wr w') (hg : GAt w' q d e H') : LzO w w' p c b q d e G H' t :=
  ⟨far2 h.g h.h hm n.n5 n.n6, hg, h.tn.keep hm fun f => f.elim (fun f => by have := n.n3; omega) fun f => by have := n.n4; omega, h.mod.trans hm fun k hk => .inr (by have := n.n3; have := n.n4; omega)⟩
theorem GAt.xch {xa : Nat} {cs : List Value} (h : GAt wr p c b G) (hx : Blk wr xa 46 cs) (hm : Mod (fun k => k = xa) wr w') (h1 : xa ≠ p) (h2 : xa ≠ b) : GAt w' p c b G := by
  have hq : NotA wr (fun k => k = xa) := hx.notA (by decide)
  obtain ⟨a1, n1, k1, a2, n2, k2, L, h⟩ := h
  exact ⟨a1, n1, k1, a2, n2, k2, L, h.blk.keep hm fun e => h1 e.symm, h.on.keepT hm hq, h.off.keepT hm hq, h.clk.keep hm (fun e => h.clk.blk.neT hx (by decide) e) fun e => h2 e.symm⟩
theorem LzO.xch {xa : Nat} {cs : List Value} (h : LzO w wr p c b q d e G H t) (hx : Blk wr xa 46 cs) (hm : Mod (fun k => k = xa) wr w') (h0 : w.heap.size < xa ∧ xa ≠ p ∧ xa ≠ b ∧ xa ≠ q ∧ xa ≠ e) : LzO w w' p c b q d e G H t :=
  ⟨h.g.xch hx hm h0.2.1 h0.2.2.1, h.h.xch hx hm h0.2.2.2.1 h0.2.2.2.2, h.tn.keep hm fun e => by omega, h.mod.trans hm fun k hk => .inr (by omega)⟩
theorem GAt.notA (h : GAt wr p c b G) : NotA wr (fun k => k = p ∨ k = b) := by
  obtain ⟨_, _, _, _, _, _, _, hh⟩ := h
  exact hh.notA
end
/-- .. with a call at hand -/
structure LzM (w wr : World) (p c b q d e xa : Nat) (G H : Gs) (t : Tn) (X : GA) (sv : Value) : Prop where
  o : LzO w wr p c b q d e G H t
  act : Blk wr xa 46 (X.c sv)
  rd : RT wr sv X.src
section
variable {w wr w' : World} {p c b q d e xa : Nat} {G H G' H' : Gs} {t : Tn} {X : GA} {sv : Value}
theorem LzM.keep0 (h : LzM w wr p c b q d e xa G H t X sv) (hm : Mod (fun _ => False) wr w') : LzM w w' p c b q d e xa G H t X sv := ⟨h.o.keep0 hm, h.act.keep hm fun f => f, h.rd.keep0 hm⟩
theorem LzM.ss {a : Option Addr} {n k : Nat} (h : LzM w wr p c b q d e xa G H t X (.slice a n k)) : wr.cell? ⟨xa, 2, none⟩ = some (.int .i64 X.older) ∧ Blk wr w.heap.size 32 t.c ∧ Blk wr xa 46 (X.c (.slice a n k)) ∧ wr.cell? ⟨xa, 21, none⟩ = some (.slice a n k) := ⟨h.act.cell rfl, h.o.tn, h.act, h.act.cell (X.c_21 _)⟩
theorem LzM.gch (h : LzM w wr p c b q d e xa G H t X sv) (n : LzN w p b q e) (hx : xa ≠ p ∧ xa ≠ b) (hm : Mod (fun k => k = p ∨ k = b) wr w') (hg : GAt w' p c b G') : LzM w w' p c b q d e xa G' H t X sv :=
  ⟨h.o.gch n hm hg, h.act.keep hm fun f => f.elim hx.1 hx.2, h.rd.keepT hm h.o.g.notA⟩
theorem LzM.hch (h : LzM w wr p c b q d e xa G H t X sv) (n : LzN w p b q e) (hx : xa ≠ q ∧ xa ≠ e) (hm : Mod (fun k => k = q ∨ k = e) wr w') (hg : GAt w' q d e H') : LzM w w' p c b q d e xa G H' t X sv :=
  ⟨h.o.hch n hm hg, h.act.keep hm fun f => f.elim hx.1 hx.2, h.rd.keepT hm h.o.h.notA⟩
end
set_option maxRecDepth 100000 in
set_option maxHeartbeats 8000000 in
theorem lazy_walk (v6 : Bool) (t : Tn) (ad : Option Addr) (n cap : Nat) (xs : List GA) (sv : Nat → Value) (w : World) (hA : ActsAt w (.slice ad n cap) xs sv) : Calls Tryz.prog 5 #[.bool v6, .agg t.c.toArray, .slice ad n cap] w fun e w' => e = .returned (.bool true) ∧ Mod (fun _ => False) w w' := by
  have hn : n = xs.length ∧ n ≤ cap ∧ cap ≤ maxLen := by
    obtain ⟨⟨a', c', e, h1, h2, _⟩, _⟩ := hA
    injection e with _ e2 e3
    omega
  have HN := Lib.hid hn
  have hnm : n ≤ 9223372036854775807 := by have := hn.2; unfold maxLen at this; omega
  have HA := Lib.hid hA
  have HT0 := Lib.hid (Blk.new w 32 t.c)
  have HM0 : Hid (Mod (fun _ => False) w (w.alloc (.cells t.c.toArray 32 (0, 0)))) := Lib.hid ((Mod.refl _ _).alloc _)
  have HLV := Lib.hid lives17_any
  clear hn hA
  go_enter Tryz.func5, Tryz.ntmps5
  go_wp2_with (refine wpList_load_blk rfl _ _ rfl w.heap.size 0 rfl 32 t.c t.c _ HT0.out rfl Tryz.underlying32 rfl tuSz ?_)
  refine (refGood t _).mono ?_
  rintro e W1 ⟨x, rfl, hx, hm1⟩
  have HT1 := Lib.hid (HT0.out.keep hm1 fun f => f)
  have HM1 : Hid (Mod (fun _ => False) w W1) := Lib.hid (HM0.out.trans hm1 fun _ f => f.elim)
  have HX := Lib.hid hx
  clear hx hm1
  cases x with
  | false =>
    go_wp2_with fail
    refine (HLV.out _).mono ?_
    rintro e W2 ⟨rfl, hm⟩
    go_wp2
    go_ret
    exact ⟨rfl, HM1.out.trans hm fun _ f => f.elim⟩
  | true =>
    have HTO : Hid t.ok := Lib.hid (HX.out rfl)
    clear HX
    go_wp2_with fail
    refine (gNew v6 _).mono ?_
    rintro e W2 ⟨p, c, b, rfl, hg2, hp, hb, hc, hm2⟩
    have HG2 := Lib.hid hg2
    have HM2 : Hid (Mod (fun _ => False) w W2) := Lib.hid (HM1.out.trans hm2 fun _ f => f.elim)
    have HT2 := Lib.hid (HT1.out.keep hm2 fun f => f)
    have HS2 : Hid (w.heap.size < p ∧ w.heap.size < b ∧ p < W2.heap.size ∧ b < W2.heap.size ∧ w.heap.size < W2.heap.size) := Lib.hid (by
      have hs1 := HM1.out.size
      have htl := HT1.out.lt
      have htl2 := (HT1.out.keep hm2 fun f => f).lt
      obtain ⟨_, _, _, _, _, _, _, hh⟩ := hg2
      have h1 := hh.blk.lt
      have h2 := hh.clk.mp.lt
      omega)
    clear hg2 hm2 hp hb hc
    go_wp2_with fail
    refine (gNew v6 _).mono ?_
    rintro e W3 ⟨q, d, e', rfl, hg3, hp, hb, hc, hm3⟩
    have HNN : Hid (LzN w p b q e') := Lib.hid (by have h := HS2.out; exact ⟨by omega, by omega, by omega, by omega, by omega, by omega⟩)
    have HO3 : Hid (LzO w W3 p c b q d e' (G0 v6) (G0 v6) t) := Lib.hid ⟨HG2.out.keep0 hm3, hg3, HT2.out.keep hm3 fun f => f, HM2.out.trans hm3 fun _ f => f.elim⟩
    have HE3 := Lib.hid (EG.g0 v6 3000000 (by omega))
    clear hg3 hm3 hp hb hc HS2 HG2 HT2 HM2 HM0 HM1 HT0 HT1
    go_wp2_with fail
    go_loopw [9, 10] (fun v8 v9 wr => ∃ (j : Nat) (m mg mh : Int) (G H : Gs), j ≤ n ∧ j ≤ 16 ∧ v8 = .int .i64 m ∧ v9 = .int .i64 (j : Int) ∧ 0 ≤ m ∧ m ≤ (j : Int) * 1000000 ∧ mg ≤ m ∧ mh ≤ m ∧ LzO w wr p c b q d e' G H t ∧ EG G 3000000 mg ∧ EG H 3000000 mh ∧ From H G m) (fun _ v9 _ => 16 - (intOf v9).toNat)
    case atStart => exact ⟨0, 0, 0, 0, G0 v6, G0 v6, by omega, by omega, rfl, rfl, by omega, by omega, by omega, by omega, HO3.out, HE3.out, HE3.out, From.refl _ _⟩
    case round =>
      clear HE3 HO3
      obtain ⟨j, m, mg, mh, G, H, hj, hj16, rfl, rfl, hm0, hmj, hmg, hmh, ho, heg, heh, hfr⟩ := hrel
      have HO := Lib.hid ho
      have HEG := Lib.hid heg
      have HEH := Lib.hid heh
      have HFR := Lib.hid hfr
      clear ho heg heh hfr
      go_upto_region 5 with fail
      go_cut [28] from 21 to 29 (fun v wx => ∃ bb : Bool, v = .bool bb ∧ (bb = true ↔ (j < n ∧ j < 16)) ∧ wx = wr)
      case first =>
        by_cases hin : j < n
        · have hin1 : (j : Int) < (n : Int) := by omega
          by_cases hi3 : j < 16
          · have hi31 : (j : Int) < 16 := by omega
            go_wp2_with fail
            go_meet
            exact ⟨true, rfl, ⟨fun _ => ⟨hin, hi3⟩, fun _ => rfl⟩, rfl⟩
          · have hi31 : ¬ (j : Int) < 16 := by omega
            go_wp2_with fail
            go_meet
            exact ⟨false, rfl, ⟨fun h => Bool.noConfusion h, fun h => absurd h.2 hi3⟩, rfl⟩
        · have hin1 : ¬ (j : Int) < (n : Int) := by omega
          go_wp2_with fail
          go_meet
          exact ⟨false, rfl, ⟨fun h => Bool.noConfusion h, fun h => absurd h.1 hin⟩, rfl⟩
      case rest =>
      obtain ⟨bb, rfl, hbb, hwc⟩ := hcut
      rw [hwc]
      have HBB := Lib.hid hbb
      clear hbb hwc
      cases bb with
      | true =>
        have hlt := HBB.out.1 rfl
        go_upto_block 1 with fail
        go_cut [9, 11, 12] from 31 to 98 (fun v9 _ _ wx => ∃ (m' : Int) (G2 H2 : Gs) (mg2 mh2 : Int), m ≤ m' ∧ m' ≤ m + 1000000 ∧ v9 = .int .i64 m' ∧ mg2 ≤ m' ∧ mh2 ≤ m' ∧ LzO w wx p c b q d e' G2 H2 t ∧ EG G2 3000000 mg2 ∧ EG H2 3000000 mh2 ∧ From H2 G2 m')
        case rest =>
          rename World => wC
          obtain ⟨m', G2, H2, mg2, mh2, hmm1, hmm2, rfl, hg2, hh2, hlm, heg2, heh2, hf2⟩ := hcut
          have HL2 := Lib.hid hlm
          have HEG2 := Lib.hid heg2
          have HEH2 := Lib.hid heh2
          have HF2 := Lib.hid hf2
          clear hlm heg2 heh2 hf2 HEG HEH HFR HO
          go_wp2
          go_roundw
          case rel => exact ⟨j + 1, m', mg2, mh2, G2, H2, by omega, by omega, rfl, by go_num, by omega, by omega, hg2, hh2, HL2.out, HEG2.out, HEH2.out, HF2.out⟩
          case measure => simp [intOf]; omega
        case first =>
        have hjl : j < xs.length := by rw [← HN.out.1]; exact hlt.1
        obtain ⟨z, hz⟩ : ∃ z, xs[j]? = some z := ⟨_, List.getElem?_eq_getElem hjl⟩
        obtain ⟨⟨ad', cap', e, hc1, hc2, hf⟩, hrd⟩ := HA.out
        obtain ⟨g, o, rfl, hra⟩ := hf (by omega)
        simp only [Value.slice.injEq] at e
        obtain ⟨rfl, -, rfl⟩ := e
        have HXR := Lib.hid (keepRange HO.out.mod (hra j z hz))
        have hrq := (hrd j z hz).keep0 HO.out.mod
        obtain ⟨u, hu⟩ : ∃ u, u = sv j := ⟨_, rfl⟩
        rw [← hu] at HXR hrq
        have hus : ∃ a n' c', u = .slice a n' c' := by
          obtain ⟨a, c', e, _⟩ := hrq
          exact ⟨a, _, c', e⟩
        obtain ⟨au, nu, cu, rfl⟩ := hus
        have HRQ := Lib.hid hrq
        have HQS := Lib.hid (z.c_sz (.slice au nu cu))
        obtain ⟨X, hX⟩ : ∃ X, X = z.cut := ⟨_, rfl⟩
        have HXW : Hid (-1000000 ≤ X.wait ∧ X.wait ≤ 1000000 ∧ X.src.length ≤ 5) := Lib.hid (by
          rw [hX]
          refine ⟨(clampW_bd z.wait).1, (clampW_bd z.wait).2, ?_⟩
          show (z.src.take 5).length ≤ 5
          rw [List.length_take]
          omega)
        have HXQ := Lib.hid hX
        clear hu hz hra hrd hf hc1 hc2 hrq hX hjl
        go_wp2_with (refine wpList_load_midG rfl _ _ rfl g (o + j * 23) rfl (z.c (.slice au nu cu)) _ HXR.out Tryz.underlying46 rfl HQS.out ?_)
        refine (act_any z HRQ.out).mono ?_
        rw [← HXQ.out]
        rintro e W3 ⟨a3, n3, k3, rfl, hr3, hm3⟩
        have hal : Mod (fun _ => False) W3 (W3.alloc (.cells zAct.toArray 46 (0, 0))) := (Mod.refl _ W3).alloc _
        have HR3 := Lib.hid (hr3.rt.keep0 hal)
        have HO3 := Lib.hid ((HO.out.keep0 hm3).keep0 hal)
        have HZ3 := Lib.hid (Blk.new W3 46 zAct)
        have HS3 : Hid (w.heap.size < W3.heap.size ∧ W3.heap.size ≠ p ∧ W3.heap.size ≠ b ∧ W3.heap.size ≠ q ∧ W3.heap.size ≠ e') := Lib.hid (by
          have ho := HO.out.keep0 hm3
          have h1 := ho.tn.lt
          obtain ⟨_, _, _, _, _, _, _, hg⟩ := ho.g
          obtain ⟨_, _, _, _, _, _, _, hh⟩ := ho.h
          have h2 := hg.blk.lt
          have h3 := hg.clk.mp.lt
          have h4 := hh.blk.lt
          have h5 := hh.clk.mp.lt
          omega)
        clear hr3 hm3 HO hal
        go_upto_if 38 with (refine wpList_store_blk rfl _ _ _ rfl W3.heap.size 0 46 zAct (X.c (.slice a3 n3 k3)) rfl rfl HZ3.out (by rw [GA.c_len]; simp) (GA.c_sz _ _) (GA.c_one _ _ rfl) ?_; intro W4 hz4 hm4; have HX4 : Hid (Blk W4 W3.heap.size 46 (X.c (.slice a3 n3 k3))) := Lib.hid (splice_all hz4.out (by rw [GA.c_len]; rfl)); have HM4 := hm4; have y1 : W4.cell? ⟨W3.heap.size, 1, none⟩ = some (.int .i64 X.wait) := HX4.out.cell rfl; clear hz4 hm4)
        obtain ⟨xa, hxa⟩ : ∃ xa, xa = W3.heap.size := ⟨_, rfl⟩
        rw [← hxa] at HX4 HM4 y1 HS3 HZ3
        have hq : NotA (W3.alloc (.cells zAct.toArray 46 (0, 0))) (fun k => k = xa) := HZ3.out.notA (by decide)
        have HL4 : Hid (LzM w W4 p c b q d e' xa G H t X (.slice a3 n3 k3)) := Lib.hid ⟨HO3.out.xch HZ3.out HM4.out HS3.out, HX4.out, HR3.out.keepT HM4.out hq⟩
        have HXA := Lib.hid hxa
        try rw [← hxa]
        clear HR3 HO3 HZ3 HM4 hq HX4 hxa
        go_cut [] from 38 to 40 (fun wx => ∃ Y : GA, Y.src.length ≤ 5 ∧ 0 ≤ Y.wait ∧ Y.wait ≤ 1000000 ∧ LzM w wx p c b q d e' xa G H t Y (.slice a3 n3 k3))
        case first =>
          by_cases hw : X.wait < 0
          · have dw : decide (X.wait < 0) = true := decide_eq_true hw
            go_wp2_with (refine wpList_store_blk1 rfl 3 _ _ rfl xa 1 46 _ (.int .i64 0) rfl rfl HL4.out.act (by rw [GA.c_len]; omega) iSz rfl ?_; intro W5 hb5 hm5; have HB5 := hb5; have HM5 := hm5; clear hb5 hm5)
            go_meet
            exact ⟨{ X with wait := 0 }, HXW.out.2.2, by show (0 : Int) ≤ 0; omega, by show (0 : Int) ≤ 1000000; omega, HL4.out.o.xch HL4.out.act HM5.out HS3.out, GA.c_set1 X (.slice a3 n3 k3) 0 ▸ HB5.out, HL4.out.rd.keepT HM5.out (HL4.out.act.notA (by decide))⟩
          · have dw : decide (X.wait < 0) = false := decide_eq_false hw
            go_wp2_with fail
            go_meet
            exact ⟨X, HXW.out.2.2, by omega, HXW.out.2.1, HL4.out⟩
        case rest =>
          rename World => wA
          obtain ⟨Y, hy5, hyw0, hyw1, hlm⟩ := hcut
          have HLA := Lib.hid hlm
          have HY5 := Lib.hid hy5
          clear hlm HL4 y1 HXW hy5
          go_upto_block 2 with fail
          go_cut [12] from 40 to 55 (fun _ wx => ∃ (H' : Gs) (mh' : Int), mh' ≤ m + Y.wait ∧ LzM w wx p c b q d e' xa G H' t Y (.slice a3 n3 k3) ∧ EG H' 3000000 mh' ∧ From H' G (m + Y.wait))
          case first =>
            go_wp2_with fail
            go_loopw [12] (fun kv wr => ∃ (k : Nat) (H' : Gs) (mh' : Int), kv = .int .i64 ((k : Int) + 1) ∧ k ≤ 40 ∧ (k : Int) ≤ Y.wait ∧ mh' ≤ m + k ∧ LzM w wr p c b q d e' xa G H' t Y (.slice a3 n3 k3) ∧ EG H' 3000000 mh' ∧ From H' G (m + k)) (fun kv _ => 50 - (intOf kv).toNat)
            case atStart => exact ⟨0, H, mh, rfl, by omega, by omega, by omega, HLA.out, HEH.out, HFR.out.later (by omega)⟩
            case round =>
              clear HLA HEH HFR
              obtain ⟨k, H', mh', rfl, hk40, hkw, hmk, hlm, he, hf⟩ := hrel
              have HL := Lib.hid hlm
              have HE := Lib.hid he
              have HF := Lib.hid hf
              have y1 : ∀ wz, LzM w wz p c b q d e' xa G H' t Y (.slice a3 n3 k3) → wz.cell? ⟨xa, 1, none⟩ = some (.int .i64 Y.wait) := fun wz hz => hz.act.cell rfl
              have y2 := y1 _ hlm
              clear hlm he hf y1
              obtain ⟨k1, hk1⟩ : ∃ k1 : Int, k1 = (k : Int) + 1 := ⟨_, rfl⟩
              rw [← hk1]
              have HK1 := Lib.hid hk1
              have hk1' : 1 ≤ k1 ∧ k1 ≤ 41 := by omega
              by_cases c1 : k1 ≤ Y.wait ∧ k1 ≤ 40
              · have q1 : k1 ≤ Y.wait := c1.1
                have q2 : k1 ≤ 40 := c1.2
                have d1 : decide (k1 ≤ Y.wait) = true := decide_eq_true q1
                have d2 : decide (k1 ≤ 40) = true := decide_eq_true q2
                clear hk1
                go_wp2_with fail
                refine (gState sortOk HL.out.o.h (HE.out.ok (by omega) (by have := HK1.out; omega)) (m + k1) (HE.out.hN _)).mono ?_
                rintro e W5 ⟨f1, f2, f3, f4, f5, f6, rfl, q1', q2', hg5, hm5⟩
                have HL5 := Lib.hid (HL.out.hch HNN.out ⟨HS3.out.2.2.2.1, HS3.out.2.2.2.2⟩ hm5 hg5)
                have HE5 := Lib.hid (HE.out.settle (m := m + k1) (by have := HK1.out; omega) (by omega) (by omega))
                have HF5 := Lib.hid (HF.out.asked (m := m + k1) HE.out.on HE.out.off (by have := HK1.out; omega))
                clear q1' q2' hg5 hm5
                go_wp2
                go_roundw
                case rel => exact ⟨k + 1, _, m + k1, by rw [HK1.out]; push_cast; rfl, by have := HK1.out; omega, by have := HK1.out; push_cast; omega, by have := HK1.out; push_cast; omega, HL5.out, HE5.out, HF5.out.later (by have := HK1.out; push_cast; omega)⟩
                case measure => simp [intOf]; omega
              · clear hk1
                by_cases q1 : k1 ≤ Y.wait
                · have q2 : ¬ k1 ≤ 40 := fun h => c1 ⟨q1, h⟩
                  have d1 : decide (k1 ≤ Y.wait) = true := decide_eq_true q1
                  have d2 : decide (k1 ≤ 40) = false := decide_eq_false q2
                  clear c1
                  go_wp2_with fail
                  go_meet
                  exact ⟨H', mh', by omega, HL.out, HE.out, HF.out.later (by omega)⟩
                · have d1 : decide (k1 ≤ Y.wait) = false := decide_eq_false q1
                  clear c1
                  go_wp2_with fail
                  go_meet
                  exact ⟨H', mh', by omega, HL.out, HE.out, HF.out.later (by omega)⟩
          case rest =>
            rename World => wB
            obtain ⟨H', mh', hmh', hlm, he, hf⟩ := hcut
            have HL := Lib.hid hlm
            have HE := Lib.hid he
            have HF := Lib.hid hf
            have y1 : wB.cell? ⟨xa, 1, none⟩ = some (.int .i64 Y.wait) := hlm.act.cell rfl
            have y0 : wB.cell? ⟨xa, 0, none⟩ = some (.int .i64 Y.kind) := hlm.act.cell rfl
            clear hlm he hf HLA HEH HFR
            obtain ⟨m', hm'⟩ : ∃ m', m' = m + Y.wait := ⟨_, rfl⟩
            have e_m : m + Y.wait = m' := hm'.symm
            have w_m : IntKind.i64.wrap m' = m' := IntWalk.i64_in _ (by omega)
            rw [← hm'] at HF hmh'
            have HM' := Lib.hid hm'
            have hmb : m ≤ m' ∧ m' ≤ m + 1000000 := by omega
            clear hm'
            have HRC : Hid ((recC Y.rk Y.g (.slice a3 n3 k3)).length = 19) := Lib.hid (recC_len _ _ _)
            have HQA := Lib.hid (Y.c_sz (.slice a3 n3 k3))
            have HYO : Hid (∀ wz p c b q d e, ∀ G H : Gs, LzM w wz p c b q d e xa G H t Y (.slice a3 n3 k3) → wz.cell? ⟨xa, 2, none⟩ = some (.int .i64 Y.older) ∧ wz.cell? ⟨xa, 21, none⟩ = some (.slice a3 n3 k3)) := Lib.hid fun wz p c b q d e G H hz => ⟨hz.act.cell rfl, hz.act.cell (Y.c_21 _)⟩
            go_upto_if 61 with fail
            have HTK : Hid ((Y.src.take 5).length ≤ 5) := Lib.hid (by rw [List.length_take]; omega)
            have hmg0 : mg ≤ m' := by omega
            · by_cases c0 : Y.kind = 0
              · have b0 : (Y.kind == 0) = true := by simp [c0]
                have d0 : decide (Y.kind = 0) = true := decide_eq_true c0
                clear c0
                go_wp2_with fail
                have hS := (HL.out.keep0 (Mod.refl _ wB).drew).ss
                refine wp_region_plan [] [(0, 0), (1, 0), (2, 1), (3, 0), (4, 1), (5, 1), (6, 2), (7, 0), (8, 2)] (fun w' : World => w'.cell? ⟨xa, 2, none⟩ = some (.int .i64 Y.older) ∧ Blk w' w.heap.size 32 t.c ∧ Blk w' xa 46 (Y.c (.slice a3 n3 k3)) ∧ w'.cell? ⟨xa, 21, none⟩ = some (.slice a3 n3 k3)) (by kernel_rfl) (by kernel_rfl) (fun d v c a w h => by first | (cases d <;> exact h) | exact HP d v c a w h) ?_
                repeat ((first | refine plan_skip rfl rfl ?_ | refine plan_pass2 rfl rfl ?_ | refine plan_pass3 rfl rfl ?_ | (refine plan_take (v := ?_) rfl rfl ?_ ?_; rotate_left; focus (intro w0; go_simp; try with_reducible rfl)) | (refine plan_held (v := ?_) rfl rfl hS ?_ ?_; rotate_left; focus (intro w0 hSw; (try dsimp only at hSw); go_split_ands; go_simp; try with_reducible rfl)) | refine plan_skip1 rfl rfl hS ?_); simp only [List.getElem_toArray, List.getElem_cons_succ, List.getElem_cons_zero, Act.put, List.setIfInBounds_toArray, List.set_cons_zero, List.set_cons_succ])
                (refine plan_held (v := .agg t.c.toArray) rfl rfl hS (fun w0 h0 => exec_load_blk _ _ rfl w.heap.size 0 rfl 32 t.c t.c _ w0 h0.2.1 rfl Tryz.underlying32 rfl tuSz) ?_; try simp only [List.getElem_toArray, List.getElem_cons_succ, List.getElem_cons_zero, Act.put, List.setIfInBounds_toArray, List.set_cons_zero, List.set_cons_succ])
                repeat ((first | refine plan_skip rfl rfl ?_ | refine plan_pass2 rfl rfl ?_ | refine plan_pass3 rfl rfl ?_ | (refine plan_take (v := ?_) rfl rfl ?_ ?_; rotate_left; focus (intro w0; go_simp; try with_reducible rfl)) | (refine plan_held (v := ?_) rfl rfl hS ?_ ?_; rotate_left; focus (intro w0 hSw; (try dsimp only at hSw); go_split_ands; go_simp; try with_reducible rfl)) | refine plan_skip1 rfl rfl hS ?_); simp only [List.getElem_toArray, List.getElem_cons_succ, List.getElem_cons_zero, Act.put, List.setIfInBounds_toArray, List.set_cons_zero, List.set_cons_succ])
                (refine plan_held (v := .agg (Y.c (.slice a3 n3 k3)).toArray) rfl rfl hS (fun w0 h0 => exec_load_blk _ _ rfl xa 0 rfl 46 (Y.c (.slice a3 n3 k3)) (Y.c (.slice a3 n3 k3)) _ w0 h0.2.2.1 (List.take_of_length_le (Nat.le_refl _)) Tryz.underlying46 rfl HQA.out) ?_; try simp only [List.getElem_toArray, List.getElem_cons_succ, List.getElem_cons_zero, Act.put, List.setIfInBounds_toArray, List.set_cons_zero, List.set_cons_succ])
                (refine plan_do rfl rfl fun K hK => ?_; try simp only [List.getElem_toArray, List.getElem_cons_succ, List.getElem_cons_zero])
                go_simp
                refine (act_any Y (HL.out.keep0 (Mod.refl _ wB).drew).rd.rd).mono ?_
                rintro e Wg0 ⟨ag0, ng0, kg0, rfl, hr, hm⟩
                have HRg0 := Lib.hid hr.rt
                have HLg0 := Lib.hid (HL.out.keep0 ((Mod.refl _ wB).drew.trans hm fun _ f => f.elim))
                refine hK _ _ HLg0.out.ss ?_
                clear hK K hr hm hS
                have hS := HLg0.out.ss
                try simp only [List.getElem_toArray, List.getElem_cons_succ, List.getElem_cons_zero, Act.put, List.setIfInBounds_toArray, List.set_cons_zero, List.set_cons_succ]
                refine plan_take (v := .agg (recC Y.rk Y.g (.slice ag0 ng0 kg0)).toArray) rfl rfl (fun w0 => exec_field_rec rfl Y.cut (.slice ag0 ng0 kg0) rfl w0) ?_
                try simp only [List.getElem_toArray, List.getElem_cons_succ, List.getElem_cons_zero, Act.put, List.setIfInBounds_toArray, List.set_cons_zero, List.set_cons_succ]
                (refine plan_do rfl rfl fun K hK => ?_; try simp only [List.getElem_toArray, List.getElem_cons_succ, List.getElem_cons_zero])
                go_simp
                refine (hear_e HLg0.out.o.g HEG.out (by omega) m' hmg0 (by omega) t HTO.out (by have := Tn.member_bd HTO.out; omega) Y.older Y.rk Y.g HRg0.out HTK.out).mono ?_
                rintro e WG ⟨⟨y1, y2', y3, y4, y5, y6, y7, y8, y9, z1, z2, z3, z4, z5, z6, z7, z8, z9, rfl⟩, hg6, he6, hm6⟩
                have HLg := Lib.hid (HLg0.out.gch HNN.out ⟨HS3.out.2.1, HS3.out.2.2.1⟩ hm6 hg6)
                have HEg0 := Lib.hid he6
                refine hK _ _ HLg.out.ss ?_
                clear hK K hg6 he6 hm6 hS HLg0 HRg0 HL
                try simp only [List.getElem_toArray, List.getElem_cons_succ, List.getElem_cons_zero, Act.put, List.setIfInBounds_toArray, List.set_cons_zero, List.set_cons_succ]
                repeat ((first | refine plan_skip rfl rfl ?_ | refine plan_pass2 rfl rfl ?_ | refine plan_pass3 rfl rfl ?_ | (refine plan_take (v := ?_) rfl rfl ?_ ?_; rotate_left; focus (intro w0; go_simp; try with_reducible rfl)) | (refine plan_held (v := ?_) rfl rfl HLg.out.ss ?_ ?_; rotate_left; focus (intro w0 hSw; (try dsimp only at hSw); go_split_ands; go_simp; try with_reducible rfl)) | refine plan_skip1 rfl rfl HLg.out.ss ?_); simp only [List.getElem_toArray, List.getElem_cons_succ, List.getElem_cons_zero, Act.put, List.setIfInBounds_toArray, List.set_cons_zero, List.set_cons_succ])
                refine plan_nil ?_
                go_wp2_with fail
                have hS := (HLg.out.keep0 (Mod.refl _ WG).drew).ss
                refine wp_region_plan [] [(0, 0), (1, 0), (2, 1), (3, 0), (4, 1), (5, 1), (6, 2), (7, 0), (8, 2)] (fun w' : World => w'.cell? ⟨xa, 2, none⟩ = some (.int .i64 Y.older) ∧ Blk w' w.heap.size 32 t.c ∧ Blk w' xa 46 (Y.c (.slice a3 n3 k3)) ∧ w'.cell? ⟨xa, 21, none⟩ = some (.slice a3 n3 k3)) (by kernel_rfl) (by kernel_rfl) (fun d v c a w h => by first | (cases d <;> exact h) | exact HP d v c a w h) ?_
                repeat ((first | refine plan_skip rfl rfl ?_ | refine plan_pass2 rfl rfl ?_ | refine plan_pass3 rfl rfl ?_ | (refine plan_take (v := ?_) rfl rfl ?_ ?_; rotate_left; focus (intro w0; go_simp; try with_reducible rfl)) | (refine plan_held (v := ?_) rfl rfl hS ?_ ?_; rotate_left; focus (intro w0 hSw; (try dsimp only at hSw); go_split_ands; go_simp; try with_reducible rfl)) | refine plan_skip1 rfl rfl hS ?_); simp only [List.getElem_toArray, List.getElem_cons_succ, List.getElem_cons_zero, Act.put, List.setIfInBounds_toArray, List.set_cons_zero, List.set_cons_succ])
                (refine plan_held (v := .agg t.c.toArray) rfl rfl hS (fun w0 h0 => exec_load_blk _ _ rfl w.heap.size 0 rfl 32 t.c t.c _ w0 h0.2.1 rfl Tryz.underlying32 rfl tuSz) ?_; try simp only [List.getElem_toArray, List.getElem_cons_succ, List.getElem_cons_zero, Act.put, List.setIfInBounds_toArray, List.set_cons_zero, List.set_cons_succ])
                repeat ((first | refine plan_skip rfl rfl ?_ | refine plan_pass2 rfl rfl ?_ | refine plan_pass3 rfl rfl ?_ | (refine plan_take (v := ?_) rfl rfl ?_ ?_; rotate_left; focus (intro w0; go_simp; try with_reducible rfl)) | (refine plan_held (v := ?_) rfl rfl hS ?_ ?_; rotate_left; focus (intro w0 hSw; (try dsimp only at hSw); go_split_ands; go_simp; try with_reducible rfl)) | refine plan_skip1 rfl rfl hS ?_); simp only [List.getElem_toArray, List.getElem_cons_succ, List.getElem_cons_zero, Act.put, List.setIfInBounds_toArray, List.set_cons_zero, List.set_cons_succ])
                (refine plan_held (v := .agg (Y.c (.slice a3 n3 k3)).toArray) rfl rfl hS (fun w0 h0 => exec_load_blk _ _ rfl xa 0 rfl 46 (Y.c (.slice a3 n3 k3)) (Y.c (.slice a3 n3 k3)) _ w0 h0.2.2.1 (List.take_of_length_le (Nat.le_refl _)) Tryz.underlying46 rfl HQA.out) ?_; try simp only [List.getElem_toArray, List.getElem_cons_succ, List.getElem_cons_zero, Act.put, List.setIfInBounds_toArray, List.set_cons_zero, List.set_cons_succ])
                (refine plan_do rfl rfl fun K hK => ?_; try simp only [List.getElem_toArray, List.getElem_cons_succ, List.getElem_cons_zero])
                go_simp
                refine (act_any Y (HLg.out.keep0 (Mod.refl _ WG).drew).rd.rd).mono ?_
                rintro e Wh0 ⟨ah0, nh0, kh0, rfl, hr, hm⟩
                have HRh0 := Lib.hid hr.rt
                have HLh0 := Lib.hid (HLg.out.keep0 ((Mod.refl _ WG).drew.trans hm fun _ f => f.elim))
                refine hK _ _ HLh0.out.ss ?_
                clear hK K hr hm hS
                have hS := HLh0.out.ss
                try simp only [List.getElem_toArray, List.getElem_cons_succ, List.getElem_cons_zero, Act.put, List.setIfInBounds_toArray, List.set_cons_zero, List.set_cons_succ]
                refine plan_take (v := .agg (recC Y.rk Y.g (.slice ah0 nh0 kh0)).toArray) rfl rfl (fun w0 => exec_field_rec rfl Y.cut (.slice ah0 nh0 kh0) rfl w0) ?_
                try simp only [List.getElem_toArray, List.getElem_cons_succ, List.getElem_cons_zero, Act.put, List.setIfInBounds_toArray, List.set_cons_zero, List.set_cons_succ]
                (refine plan_do rfl rfl fun K hK => ?_; try simp only [List.getElem_toArray, List.getElem_cons_succ, List.getElem_cons_zero])
                go_simp
                refine (hear_e HLh0.out.o.h HE.out (by omega) m' hmh' (by omega) t HTO.out (by have := Tn.member_bd HTO.out; omega) Y.older Y.rk Y.g HRh0.out HTK.out).mono ?_
                rintro e WH ⟨⟨y1, y2', y3, y4, y5, y6, y7, y8, y9, z1, z2, z3, z4, z5, z6, z7, z8, z9, rfl⟩, hg6, he6, hm6⟩
                have HLh := Lib.hid (HLh0.out.hch HNN.out ⟨HS3.out.2.2.2.1, HS3.out.2.2.2.2⟩ hm6 hg6)
                have HEh0 := Lib.hid he6
                refine hK _ _ HLh.out.ss ?_
                clear hK K hg6 he6 hm6 hS HLh0 HRh0 HLg
                try simp only [List.getElem_toArray, List.getElem_cons_succ, List.getElem_cons_zero, Act.put, List.setIfInBounds_toArray, List.set_cons_zero, List.set_cons_succ]
                repeat ((first | refine plan_skip rfl rfl ?_ | refine plan_pass2 rfl rfl ?_ | refine plan_pass3 rfl rfl ?_ | (refine plan_take (v := ?_) rfl rfl ?_ ?_; rotate_left; focus (intro w0; go_simp; try with_reducible rfl)) | (refine plan_held (v := ?_) rfl rfl HLh.out.ss ?_ ?_; rotate_left; focus (intro w0 hSw; (try dsimp only at hSw); go_split_ands; go_simp; try with_reducible rfl)) | refine plan_skip1 rfl rfl HLh.out.ss ?_); simp only [List.getElem_toArray, List.getElem_cons_succ, List.getElem_cons_zero, Act.put, List.setIfInBounds_toArray, List.set_cons_zero, List.set_cons_succ])
                refine plan_nil ?_
                go_wp2_with fail
                go_meet
                exact ⟨m', _, _, m', m', hmb.1, hmb.2, rfl, by omega, by omega, HLh.out.o, HEg0.out, HEh0.out, by rw [(HF.out.hear t.member Y.older Y.rk Y.cut.src)]; exact From.refl _ _⟩
              · have b0 : (Y.kind == 0) = false := by simp [c0]
                have d0 : decide (Y.kind = 0) = false := decide_eq_false c0
                clear c0
                by_cases c1 : Y.kind = 1
                · have b1 : (Y.kind == 1) = true := by simp [c1]
                  have d1 : decide (Y.kind = 1) = true := decide_eq_true c1
                  clear c1
                  go_wp2_with fail
                  have hS := (HL.out.keep0 (Mod.refl _ wB).drew).ss
                  refine wp_region_plan [] [(0, 0), (1, 0), (2, 1), (3, 0), (4, 0), (5, 1), (6, 2), (7, 2)] (fun w' : World => w'.cell? ⟨xa, 2, none⟩ = some (.int .i64 Y.older) ∧ Blk w' w.heap.size 32 t.c ∧ Blk w' xa 46 (Y.c (.slice a3 n3 k3)) ∧ w'.cell? ⟨xa, 21, none⟩ = some (.slice a3 n3 k3)) (by kernel_rfl) (by kernel_rfl) (fun d v c a w h => by first | (cases d <;> exact h) | exact HP d v c a w h) ?_
                  repeat ((first | refine plan_skip rfl rfl ?_ | refine plan_pass2 rfl rfl ?_ | refine plan_pass3 rfl rfl ?_ | (refine plan_take (v := ?_) rfl rfl ?_ ?_; rotate_left; focus (intro w0; go_simp; try with_reducible rfl)) | (refine plan_held (v := ?_) rfl rfl hS ?_ ?_; rotate_left; focus (intro w0 hSw; (try dsimp only at hSw); go_split_ands; go_simp; try with_reducible rfl)) | refine plan_skip1 rfl rfl hS ?_); simp only [List.getElem_toArray, List.getElem_cons_succ, List.getElem_cons_zero, Act.put, List.setIfInBounds_toArray, List.set_cons_zero, List.set_cons_succ])
                  (refine plan_held (v := .agg t.c.toArray) rfl rfl hS (fun w0 h0 => exec_load_blk _ _ rfl w.heap.size 0 rfl 32 t.c t.c _ w0 h0.2.1 rfl Tryz.underlying32 rfl tuSz) ?_; try simp only [List.getElem_toArray, List.getElem_cons_succ, List.getElem_cons_zero, Act.put, List.setIfInBounds_toArray, List.set_cons_zero, List.set_cons_succ])
                  repeat ((first | refine plan_skip rfl rfl ?_ | refine plan_pass2 rfl rfl ?_ | refine plan_pass3 rfl rfl ?_ | (refine plan_take (v := ?_) rfl rfl ?_ ?_; rotate_left; focus (intro w0; go_simp; try with_reducible rfl)) | (refine plan_held (v := ?_) rfl rfl hS ?_ ?_; rotate_left; focus (intro w0 hSw; (try dsimp only at hSw); go_split_ands; go_simp; try with_reducible rfl)) | refine plan_skip1 rfl rfl hS ?_); simp only [List.getElem_toArray, List.getElem_cons_succ, List.getElem_cons_zero, Act.put, List.setIfInBounds_toArray, List.set_cons_zero, List.set_cons_succ])
                  (refine plan_do rfl rfl fun K hK => ?_; try simp only [List.getElem_toArray, List.getElem_cons_succ, List.getElem_cons_zero])
                  go_simp
                  refine (addrs_any (HL.out.keep0 (Mod.refl _ wB).drew).rd.rd).mono ?_
                  rintro e Wg1 ⟨ag1, ng1, kg1, rfl, hr, hm⟩
                  have HRg1 := Lib.hid hr.rt
                  have HLg1 := Lib.hid (HL.out.keep0 ((Mod.refl _ wB).drew.trans hm fun _ f => f.elim))
                  refine hK _ _ HLg1.out.ss ?_
                  clear hK K hr hm hS
                  have hS := HLg1.out.ss
                  try simp only [List.getElem_toArray, List.getElem_cons_succ, List.getElem_cons_zero, Act.put, List.setIfInBounds_toArray, List.set_cons_zero, List.set_cons_succ]
                  (refine plan_do rfl rfl fun K hK => ?_; try simp only [List.getElem_toArray, List.getElem_cons_succ, List.getElem_cons_zero])
                  go_simp
                  refine (query_e HLg1.out.o.g HEG.out (by omega) m' hmg0 (by omega) t HTO.out (by have := Tn.member_bd HTO.out; have := Tn.final_bd HTO.out; omega) HRg1.out HTK.out).mono ?_
                  rintro e WG ⟨⟨y1, rfl⟩, hg6, he6, hm6⟩
                  have HLg := Lib.hid (HLg1.out.gch HNN.out ⟨HS3.out.2.1, HS3.out.2.2.1⟩ hm6 hg6)
                  have HEg1 := Lib.hid he6
                  refine hK _ _ HLg.out.ss ?_
                  clear hK K hg6 he6 hm6 hS HLg1 HRg1 HL
                  try simp only [List.getElem_toArray, List.getElem_cons_succ, List.getElem_cons_zero, Act.put, List.setIfInBounds_toArray, List.set_cons_zero, List.set_cons_succ]
                  repeat ((first | refine plan_skip rfl rfl ?_ | refine plan_pass2 rfl rfl ?_ | refine plan_pass3 rfl rfl ?_ | (refine plan_take (v := ?_) rfl rfl ?_ ?_; rotate_left; focus (intro w0; go_simp; try with_reducible rfl)) | (refine plan_held (v := ?_) rfl rfl HLg.out.ss ?_ ?_; rotate_left; focus (intro w0 hSw; (try dsimp only at hSw); go_split_ands; go_simp; try with_reducible rfl)) | refine plan_skip1 rfl rfl HLg.out.ss ?_); simp only [List.getElem_toArray, List.getElem_cons_succ, List.getElem_cons_zero, Act.put, List.setIfInBounds_toArray, List.set_cons_zero, List.set_cons_succ])
                  refine plan_nil ?_
                  go_wp2_with fail
                  have hS := (HLg.out.keep0 (Mod.refl _ WG).drew).ss
                  refine wp_region_plan [] [(0, 0), (1, 0), (2, 1), (3, 0), (4, 0), (5, 1), (6, 2), (7, 2)] (fun w' : World => w'.cell? ⟨xa, 2, none⟩ = some (.int .i64 Y.older) ∧ Blk w' w.heap.size 32 t.c ∧ Blk w' xa 46 (Y.c (.slice a3 n3 k3)) ∧ w'.cell? ⟨xa, 21, none⟩ = some (.slice a3 n3 k3)) (by kernel_rfl) (by kernel_rfl) (fun d v c a w h => by first | (cases d <;> exact h) | exact HP d v c a w h) ?_
                  repeat ((first | refine plan_skip rfl rfl ?_ | refine plan_pass2 rfl rfl ?_ | refine plan_pass3 rfl rfl ?_ | (refine plan_take (v := ?_) rfl rfl ?_ ?_; rotate_left; focus (intro w0; go_simp; try with_reducible rfl)) | (refine plan_held (v := ?_) rfl rfl hS ?_ ?_; rotate_left; focus (intro w0 hSw; (try dsimp only at hSw); go_split_ands; go_simp; try with_reducible rfl)) | refine plan_skip1 rfl rfl hS ?_); simp only [List.getElem_toArray, List.getElem_cons_succ, List.getElem_cons_zero, Act.put, List.setIfInBounds_toArray, List.set_cons_zero, List.set_cons_succ])
                  (refine plan_held (v := .agg t.c.toArray) rfl rfl hS (fun w0 h0 => exec_load_blk _ _ rfl w.heap.size 0 rfl 32 t.c t.c _ w0 h0.2.1 rfl Tryz.underlying32 rfl tuSz) ?_; try simp only [List.getElem_toArray, List.getElem_cons_succ, List.getElem_cons_zero, Act.put, List.setIfInBounds_toArray, List.set_cons_zero, List.set_cons_succ])
                  repeat ((first | refine plan_skip rfl rfl ?_ | refine plan_pass2 rfl rfl ?_ | refine plan_pass3 rfl rfl ?_ | (refine plan_take (v := ?_) rfl rfl ?_ ?_; rotate_left; focus (intro w0; go_simp; try with_reducible rfl)) | (refine plan_held (v := ?_) rfl rfl hS ?_ ?_; rotate_left; focus (intro w0 hSw; (try dsimp only at hSw); go_split_ands; go_simp; try with_reducible rfl)) | refine plan_skip1 rfl rfl hS ?_); simp only [List.getElem_toArray, List.getElem_cons_succ, List.getElem_cons_zero, Act.put, List.setIfInBounds_toArray, List.set_cons_zero, List.set_cons_succ])
                  (refine plan_do rfl rfl fun K hK => ?_; try simp only [List.getElem_toArray, List.getElem_cons_succ, List.getElem_cons_zero])
                  go_simp
                  refine (addrs_any (HLg.out.keep0 (Mod.refl _ WG).drew).rd.rd).mono ?_
                  rintro e Wh1 ⟨ah1, nh1, kh1, rfl, hr, hm⟩
                  have HRh1 := Lib.hid hr.rt
                  have HLh1 := Lib.hid (HLg.out.keep0 ((Mod.refl _ WG).drew.trans hm fun _ f => f.elim))
                  refine hK _ _ HLh1.out.ss ?_
                  clear hK K hr hm hS
                  have hS := HLh1.out.ss
                  try simp only [List.getElem_toArray, List.getElem_cons_succ, List.getElem_cons_zero, Act.put, List.setIfInBounds_toArray, List.set_cons_zero, List.set_cons_succ]
                  (refine plan_do rfl rfl fun K hK => ?_; try simp only [List.getElem_toArray, List.getElem_cons_succ, List.getElem_cons_zero])
                  go_simp
                  refine (query_e HLh1.out.o.h HE.out (by omega) m' hmh' (by omega) t HTO.out (by have := Tn.member_bd HTO.out; have := Tn.final_bd HTO.out; omega) HRh1.out HTK.out).mono ?_
                  rintro e WH ⟨⟨y1, rfl⟩, hg6, he6, hm6⟩
                  have HLh := Lib.hid (HLh1.out.hch HNN.out ⟨HS3.out.2.2.2.1, HS3.out.2.2.2.2⟩ hm6 hg6)
                  have HEh1 := Lib.hid he6
                  refine hK _ _ HLh.out.ss ?_
                  clear hK K hg6 he6 hm6 hS HLh1 HRh1 HLg
                  try simp only [List.getElem_toArray, List.getElem_cons_succ, List.getElem_cons_zero, Act.put, List.setIfInBounds_toArray, List.set_cons_zero, List.set_cons_succ]
                  repeat ((first | refine plan_skip rfl rfl ?_ | refine plan_pass2 rfl rfl ?_ | refine plan_pass3 rfl rfl ?_ | (refine plan_take (v := ?_) rfl rfl ?_ ?_; rotate_left; focus (intro w0; go_simp; try with_reducible rfl)) | (refine plan_held (v := ?_) rfl rfl HLh.out.ss ?_ ?_; rotate_left; focus (intro w0 hSw; (try dsimp only at hSw); go_split_ands; go_simp; try with_reducible rfl)) | refine plan_skip1 rfl rfl HLh.out.ss ?_); simp only [List.getElem_toArray, List.getElem_cons_succ, List.getElem_cons_zero, Act.put, List.setIfInBounds_toArray, List.set_cons_zero, List.set_cons_succ])
                  refine plan_nil ?_
                  go_wp2_with fail
                  go_meet
                  exact ⟨m', _, _, m', m', hmb.1, hmb.2, rfl, by omega, by omega, HLh.out.o, HEg1.out, HEh1.out, by rw [(HF.out.query t.final (Y.src.take 5))]; exact From.refl _ _⟩
                · have b1 : (Y.kind == 1) = false := by simp [c1]
                  have d1 : decide (Y.kind = 1) = false := decide_eq_false c1
                  clear c1
                  go_wp2_with fail
                  go_meet
                  exact ⟨m', G, H', mg, mh', hmb.1, hmb.2, rfl, hmg0, hmh', HL.out.o, HEG.out, HE.out, HF.out⟩
      | false =>
        have hmb : m ≤ 16000000 := by omega
        have HOKG := Lib.hid (HEG.out.ok (by omega) (by omega))
        have HOKH := Lib.hid (HEH.out.ok (by omega) (by omega))
        have HEGS := Lib.hid (HEG.out.settle (m := m) hmg (by omega) (by omega))
        have HEHS := Lib.hid (HEH.out.settle (m := m) hmh (by omega) (by omega))
        have HEQ : Hid (settleG H m = settleG G m) := Lib.hid (HFR.out m (Int.le_refl _))
        have HOKG2 := Lib.hid (HEGS.out.ok (by omega) (by omega))
        go_wp2_with fail
        refine (gState sortOk HO.out.g HOKG.out m (HEG.out.hN _)).mono ?_
        rintro e W3 ⟨f1, f2, f3, f4, f5, f6, rfl, q1, q2, hg3, hm3⟩
        have HO3 := Lib.hid (HO.out.gch HNN.out hm3 hg3)
        have HR1 := Lib.hid q1
        have HR2 := Lib.hid q2
        clear hg3 hm3 q1 q2 HO
        go_wp2_with fail
        refine (gState sortOk HO3.out.h HOKH.out m (HEH.out.hN _)).mono ?_
        rw [HEQ.out]
        rintro e W4 ⟨h1, h2, h3, h4, h5, h6, rfl, q1, q2, hg4, hm4⟩
        have HR3 := Lib.hid (HR1.out.keepT hm4 HO3.out.h.notA)
        have HR4 := Lib.hid (HR2.out.keepT hm4 HO3.out.h.notA)
        have HR5 := Lib.hid q1
        have HR6 := Lib.hid q2
        have HO4 := Lib.hid (HO3.out.hch HNN.out hm4 hg4)
        clear hg4 hm4 q1 q2 HO3 HR1 HR2
        go_wp2_with fail
        refine (sameSt _ HR3.out.rd HR4.out.rd HR5.out.rd HR6.out.rd).mono ?_
        rintro e W5 ⟨rfl, hm5⟩
        have HO5 := Lib.hid (HO4.out.keep0 hm5)
        clear hm5 HO4
        obtain ⟨left, hleft⟩ : ∃ left, left = (if (settleG (settleG G m) m).ex = true then (settleG (settleG G m) m).till - (settleG (settleG G m) m).now else 0) := ⟨_, rfl⟩
        have HLF := Lib.hid hleft
        have bl : (left == left) = true := by simp
        clear hleft
        go_wp2_with fail
        refine (gLeft sortOk HO5.out.g HOKG2.out m (HEGS.out.hN _)).mono ?_
        rw [← HLF.out]
        rintro e W6 ⟨rfl, hg6, hm6⟩
        have HO6 := Lib.hid (HO5.out.gch HNN.out hm6 hg6)
        clear hg6 hm6 HO5
        go_wp2_with fail
        refine (gLeft sortOk HO6.out.h HOKG2.out m (HEGS.out.hN _)).mono ?_
        rw [← HLF.out]
        rintro e W7 ⟨rfl, hg7, hm7⟩
        have HO7 := Lib.hid (HO6.out.hch HNN.out hm7 hg7)
        clear hg7 hm7 HO6
        go_wp2_with fail
        refine (HLV.out _).mono ?_
        rintro e W8 ⟨rfl, hm8⟩
        have HM8 : Hid (Mod (fun _ => False) w W8) := Lib.hid (HO7.out.mod.trans hm8 fun _ f => f.elim)
        clear hm8
        go_wp2
        go_ret
        exact ⟨rfl, HM8.out⟩
end Go.Proofs.YtcccdlmngddalaaGreat
