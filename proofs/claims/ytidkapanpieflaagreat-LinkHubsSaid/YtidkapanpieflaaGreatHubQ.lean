/- The reference's hub: put: contract. -/
import Derived.Test.YtidkapanpieflaaGreatHubY
namespace Go.Proofs.YtidkapanpieflaaGreat
open Go.RowKit
set_option linter.unusedVariables false
set_option linter.unusedSimpArgs false
theorem Fam.put0 {α : Type} {A : World → Nat → (Nat → Prop) → α → Prop} {nd : α → Int} {w : World} {c : Clr} {vbo : Int → Nat} {l : List α} (h : Fam A nd w c vbo l) {x : α} {vb : Nat} (hx : A w vb (fun k => c k = .inl (nd x)) x) : Fam A nd w c (fun n => if n = nd x then vb else vbo n) (hput nd l x) := fun y hy => by
  rcases mem_hput.1 hy with rfl | ⟨hy, hne⟩
  · simp only [if_pos]; exact hx
  · simp only [if_neg hne]; exact h y hy
theorem slSz : (Tryz.prog.info? 26).map (·.size) = some 1 := by kernel_rfl
theorem ptrsC_app (pbo : Int → Nat) (a b : List RLife) : ptrsC pbo (a ++ b) = ptrsC pbo a ++ ptrsC pbo b := by simp [ptrsC]
/-- what put has laid: not yet the new one, or with it -/
def PutO (X : RLife) (l : List RLife) (j : Nat) (done : Bool) (out : List RLife) : Prop :=
  (done = false ∧ out = l.take j ∧ ∀ y ∈ l.take j, y.node < X.node) ∨ (done = true ∧ out = hput RLife.node (l.take j) X ∧ ∃ z ∈ l.take j, X.node ≤ z.node)
structure PutI (X : RLife) (l : List RLife) (pb : Int → Nat) (w wr : World) (j : Nat) (done : Bool) (v : Value) (out : List RLife) : Prop where
  row : Row wr (fun k => w.heap.size ≤ k) 46 1 v out.length (ptrsC pb out)
  mod : Mod (fun _ => False) w wr
  o : PutO X l j done out
  len : out.length ≤ j + 1
theorem put_take {l : List RLife} {j : Nat} {y : RLife} (h : l[j]? = some y) : l.take (j + 1) = l.take j ++ [y] := by rw [List.take_add_one, h]; rfl
theorem put_lt {l : List RLife} (ha : Asc RLife.node l) {j : Nat} {y : RLife} (h : l[j]? = some y) : ∀ z ∈ l.take j, z.node < y.node := by
  obtain ⟨s, t, e, _, e2, _⟩ := split_at h
  have := asc_app (e ▸ ha)
  intro z hz
  rw [← e2] at hz
  exact this.2.2 z hz y List.mem_cons_self
/-- one round -/
theorem put_skip {X y : RLife} {l : List RLife} (ha : Asc RLife.node l) {j : Nat} (h : l[j]? = some y) (ho : ∀ z ∈ l.take j, z.node < X.node) (he : y.node = X.node) : PutO X l (j + 1) true (l.take j ++ [X]) := by
  refine .inr ⟨rfl, ?_, y, by rw [put_take h]; simp, by omega⟩
  rw [put_take h, hput_eq ho he]
theorem put_both {X y : RLife} {l : List RLife} (ha : Asc RLife.node l) {j : Nat} (h : l[j]? = some y) (ho : ∀ z ∈ l.take j, z.node < X.node) (he : X.node < y.node) : PutO X l (j + 1) true (l.take j ++ [X] ++ [y]) := by
  refine .inr ⟨rfl, ?_, y, by rw [put_take h]; simp, by omega⟩
  rw [put_take h, hput_step (put_lt ha h) he, hput_far ho]
theorem put_less {X y : RLife} {l : List RLife} {j : Nat} (h : l[j]? = some y) (ho : ∀ z ∈ l.take j, z.node < X.node) (he : y.node < X.node) : PutO X l (j + 1) false (l.take j ++ [y]) := by
  refine .inl ⟨rfl, (put_take h).symm, fun z hz => ?_⟩
  rw [put_take h, List.mem_append, List.mem_singleton] at hz
  rcases hz with hz | rfl
  · exact ho z hz
  · exact he
theorem put_more {X y : RLife} {l : List RLife} (ha : Asc RLife.node l) {j : Nat} (h : l[j]? = some y) (he : X.node < y.node) (hz : ∃ z ∈ l.take j, X.node ≤ z.node) : PutO X l (j + 1) true (hput RLife.node (l.take j) X ++ [y]) := by
  refine .inr ⟨rfl, ?_, y, by rw [put_take h]; simp, by omega⟩
  rw [put_take h, hput_step (put_lt ha h) he]
structure PutR (pb : Int → Nat) (w wr : World) (v : Value) (out : List RLife) : Prop where
  row : Row wr (fun k => w.heap.size ≤ k) 46 1 v out.length (ptrsC pb out)
  mod : Mod (fun _ => False) w wr
theorem PutR.drew {pb : Int → Nat} {w wr : World} {v : Value} {out : List RLife} (h : PutR pb w wr v out) : PutR pb w wr.drew v out := ⟨h.row, h.mod.drew⟩
/-- one more is appended -/
theorem PutR.app {pb : Int → Nat} {w B w' : World} {v v' u : Value} {out : List RLife} {o : Obj} {y : RLife} (h : PutR pb w B v out) (hr : Row w' (fun k => w.heap.size ≤ k ∨ (B.alloc o).heap.size ≤ k) 46 1 v' (out.length + 1) (ptrsC pb out ++ [u])) (hm : Mod (fun k => v.ownBlock = some k) (B.alloc o) w') (hu : u = ptrV pb y.node) : PutR pb w w' v' (out ++ [y]) := by
  subst hu
  have hs := h.mod.size
  refine ⟨?_, (h.mod.alloc o).trans (Mod.row (h.row.alloc o) hm) fun k hk => .inr hk⟩
  rw [List.length_append, ptrsC_app]
  exact hr.mono fun k hk => hk.elim id fun hk => by simp at hk; omega
set_option maxRecDepth 100000 in
set_option maxHeartbeats 4000000 in
theorem put_any {w : World} {xb p : Nat} {l : List RLife} {gs : List (Int × Int)} {lv gv : Value} {pbo : Int → Nat} {c : Clr} (h : XIn w xb l gs lv gv pbo c) {X : RLife} (hX : RLifeAt w p (fun k => c k = .inl X.node) X) (hl : l.length ≤ 1000) :
    Calls Tryz.prog 41 #[.pointer (some ⟨xb, 0, none⟩), .pointer (some ⟨p, 0, none⟩)] w fun e w' => e = .returned (.tuple #[]) ∧ ∃ lv', XIn w' xb (hput RLife.node l X) gs lv' gv (fun n => if n = X.node then p else pbo n) (dyed c w (.inr 1)) ∧ Mod (fun k => c k = .inr 0) w w' := by
  obtain ⟨ad, cp, hlv, hnc, hcm, c0, hg⟩ := h.form
  unfold maxLen at hcm
  have HH := Lib.hid h
  have HX := Lib.hid hX
  rw [hlv] at c0
  obtain ⟨n, hn⟩ : ∃ n, n = l.length := ⟨_, rfl⟩
  rw [← hn] at c0 hnc hg hl
  obtain ⟨pb, hpb⟩ : ∃ pb : Int → Nat, pb = fun n => if n = X.node then p else pbo n := ⟨_, rfl⟩
  have hpX : ptrV pb X.node = .pointer (some ⟨p, 0, none⟩) := by rw [hpb]; unfold ptrV; simp
  have hpY : ∀ y : RLife, y.node ≠ X.node → ptrV pb y.node = .pointer (some ⟨pbo y.node, 0, none⟩) := fun y hy => by rw [hpb]; unfold ptrV; simp [hy]
  have HPX := Lib.hid hpX
  have HPY := Lib.hid hpY
  have HPB := Lib.hid hpb
  have HPBe := Lib.hid hpb.symm
  have HG := Lib.hid hg
  have HC := Lib.hid c0
  have HL := Lib.hid hn
  obtain ⟨xpo, xpi, hxb⟩ := hX.cells
  have hx0 : w.cell? ⟨p, 0, none⟩ = some (.int .i64 X.node) := cellOf hxb 0
  have HX0 := Lib.hid hx0
  clear h hg hn hlv c0 hX hpX hpY hpb hxb hx0
  go_enter Tryz.func41, Tryz.ntmps41
  go_wp2_with fail
  go_loopw [4, 5, 6] (fun out dv i wr => ∃ (j : Nat) (done : Bool) (o : List RLife), j ≤ n ∧ dv = .bool done ∧ i = .int .i64 (j : Int) ∧ PutI X l pb w wr j done out o) (fun _ _ i _ => n - (intOf i).toNat)
  case atStart => exact ⟨0, false, [], Nat.zero_le _, rfl, rfl, ⟨by simpa [ptrsC] using Row.made (f := fun k => w.heap.size ≤ k) (cur := #[]) (sz := 1) (n := 0) (allocNew w (.cells #[] 46)) rfl (by unfold maxLen; omega) (Nat.le_refl _), (Mod.refl _ _).alloc _, .inl ⟨rfl, by simp, by simp⟩, by simp⟩⟩
  case round =>
    obtain ⟨j, done, o, hj, rfl, rfl, hI⟩ := hrel
    have HI := Lib.hid hI
    have holen := hI.len
    obtain ⟨oa, oc, rfl, _, _, _⟩ := hI.row.form
    have c0 := hI.mod.cell (fun f => f) HC.out
    clear hI
    by_cases hlt : j < n
    · obtain ⟨g, rfl, _, _, hc⟩ := HG.out (by omega)
      obtain ⟨y, hy⟩ : ∃ y, l[j]? = some y := ⟨_, List.getElem?_eq_getElem (by have := HL.out; omega)⟩
      have hki : (j : Int) < (n : Int) := by omega
      have hS : wr.drew.cell? ⟨xb, 0, none⟩ = some (.slice (some ⟨g, 0, none⟩) n cp) ∧ wr.drew.cell? ⟨g, j, none⟩ = some (.pointer (some ⟨pbo y.node, 0, none⟩)) ∧ wr.drew.cell? ⟨pbo y.node, 0, none⟩ = some (.int .i64 y.node) ∧ wr.drew.cell? ⟨p, 0, none⟩ = some (.int .i64 X.node) := ⟨c0, HI.out.mod.cell (fun f => f) (hc _ _ hy), HI.out.mod.cell (fun f => f) (HH.out.nodeAt hy), HI.out.mod.cell (fun f => f) HX0.out⟩
      have HY := Lib.hid hy
      have HCWx := Lib.hid (⟨HC.out, hc _ _ hy, HH.out.nodeAt hy, HX0.out⟩ : w.cell? ⟨xb, 0, none⟩ = some (.slice (some ⟨g, 0, none⟩) n cp) ∧ w.cell? ⟨g, j, none⟩ = some (.pointer (some ⟨pbo y.node, 0, none⟩)) ∧ w.cell? ⟨pbo y.node, 0, none⟩ = some (.int .i64 y.node) ∧ w.cell? ⟨p, 0, none⟩ = some (.int .i64 X.node))
      have HIO := Lib.hid HI.out.o
      clear hc hy
      have HP : Hid (PutR pb w wr (.slice oa o.length oc) o) := Lib.hid ⟨HI.out.row, HI.out.mod⟩
      have HCW : Hid (w.cell? ⟨xb, 0, none⟩ = some (.slice (some ⟨g, 0, none⟩) n cp) ∧ w.cell? ⟨g, j, none⟩ = some (.pointer (some ⟨pbo y.node, 0, none⟩)) ∧ w.cell? ⟨pbo y.node, 0, none⟩ = some (.int .i64 y.node) ∧ w.cell? ⟨p, 0, none⟩ = some (.int .i64 X.node)) := Lib.hid HCWx.out
      clear HI
      cases done with
      | false =>
        rcases (show y.node < X.node ∨ y.node = X.node ∨ X.node < y.node by omega) with hyx | hyx | hyx
        · as_aux_lemma =>
            have HO : Hid (o = l.take j ∧ ∀ z ∈ l.take j, z.node < X.node) := Lib.hid (HIO.out.elim (fun h => h.2) fun h => (by cases h.1))
            have holj : o.length ≤ j := by rw [HO.out.1, List.length_take]; omega
            have hd1 : decide (X.node ≤ y.node) = false := decide_eq_false (by omega)
            have hd2 : (y.node != X.node) = true := by simp; omega
            have hpo := put_less HY.out HO.out.2 hyx
            rw [← HO.out.1] at hpo
            have HPO := Lib.hid hpo
            clear hpo
            have HYP := Lib.hid (HPY.out y (by omega))
            clear hyx
            go_wp2_with fail
            refine wp_region_plan [] [(0, 0), (1, 0), (2, 0), (3, 0), (4, 0), (5, 0), (6, 1), (7, 0), (8, 0), (9, 1), (10, 0), (11, 0), (12, 1), (13, 0), (14, 0), (15, 0), (16, 1), (17, 0), (18, 0)] (fun w' : World => w'.cell? ⟨xb, 0, none⟩ = some (.slice (some ⟨g, 0, none⟩) n cp) ∧ w'.cell? ⟨g, j, none⟩ = some (.pointer (some ⟨pbo y.node, 0, none⟩)) ∧ w'.cell? ⟨pbo y.node, 0, none⟩ = some (.int .i64 y.node) ∧ w'.cell? ⟨p, 0, none⟩ = some (.int .i64 X.node)) (by kernel_rfl) (by kernel_rfl) (fun d _ _ _ _ h => by cases d <;> exact h) ?_
            repeat (first | (refine plan_skip rfl rfl ?_; simp only [List.getElem_toArray, List.getElem_cons_succ, List.getElem_cons_zero, Act.put, List.setIfInBounds_toArray, List.set_cons_zero, List.set_cons_succ]) | (refine plan_pass2 rfl rfl ?_; simp only [List.getElem_toArray, List.getElem_cons_succ, List.getElem_cons_zero, Act.put, List.setIfInBounds_toArray, List.set_cons_zero, List.set_cons_succ]) | (refine plan_pass3 rfl rfl ?_; simp only [List.getElem_toArray, List.getElem_cons_succ, List.getElem_cons_zero, Act.put, List.setIfInBounds_toArray, List.set_cons_zero, List.set_cons_succ]) | (refine plan_take (v := ?_) rfl rfl ?_ ?_; rotate_left; (focus (intro w0; go_simp; try with_reducible rfl)); simp only [List.getElem_toArray, List.getElem_cons_succ, List.getElem_cons_zero, Act.put, List.setIfInBounds_toArray, List.set_cons_zero, List.set_cons_succ]) | (refine plan_held (v := ?_) rfl rfl hS ?_ ?_; rotate_left; (focus (intro w0 hSw; (try dsimp only at hSw); go_split_ands; go_simp; try with_reducible rfl)); simp only [List.getElem_toArray, List.getElem_cons_succ, List.getElem_cons_zero, Act.put, List.setIfInBounds_toArray, List.set_cons_zero, List.set_cons_succ])  | (refine plan_skip1 rfl rfl hS ?_; simp only [List.getElem_toArray, List.getElem_cons_succ, List.getElem_cons_zero, Act.put, List.setIfInBounds_toArray, List.set_cons_zero, List.set_cons_succ]))
            try simp only [hd1, ge_iff_le, Bool.not_false, Bool.not_true]
            repeat (first | (refine plan_skip rfl rfl ?_; simp only [List.getElem_toArray, List.getElem_cons_succ, List.getElem_cons_zero, Act.put, List.setIfInBounds_toArray, List.set_cons_zero, List.set_cons_succ]) | (refine plan_pass2 rfl rfl ?_; simp only [List.getElem_toArray, List.getElem_cons_succ, List.getElem_cons_zero, Act.put, List.setIfInBounds_toArray, List.set_cons_zero, List.set_cons_succ]) | (refine plan_pass3 rfl rfl ?_; simp only [List.getElem_toArray, List.getElem_cons_succ, List.getElem_cons_zero, Act.put, List.setIfInBounds_toArray, List.set_cons_zero, List.set_cons_succ]) | (refine plan_take (v := ?_) rfl rfl ?_ ?_; rotate_left; (focus (intro w0; go_simp; try with_reducible rfl)); simp only [List.getElem_toArray, List.getElem_cons_succ, List.getElem_cons_zero, Act.put, List.setIfInBounds_toArray, List.set_cons_zero, List.set_cons_succ]) | (refine plan_held (v := ?_) rfl rfl hS ?_ ?_; rotate_left; (focus (intro w0 hSw; (try dsimp only at hSw); go_split_ands; go_simp; try with_reducible rfl)); simp only [List.getElem_toArray, List.getElem_cons_succ, List.getElem_cons_zero, Act.put, List.setIfInBounds_toArray, List.set_cons_zero, List.set_cons_succ])  | (refine plan_skip1 rfl rfl hS ?_; simp only [List.getElem_toArray, List.getElem_cons_succ, List.getElem_cons_zero, Act.put, List.setIfInBounds_toArray, List.set_cons_zero, List.set_cons_succ]))
            try simp only [hd1, ge_iff_le, Bool.not_false, Bool.not_true]
            repeat (first | (refine plan_skip rfl rfl ?_; simp only [List.getElem_toArray, List.getElem_cons_succ, List.getElem_cons_zero, Act.put, List.setIfInBounds_toArray, List.set_cons_zero, List.set_cons_succ]) | (refine plan_pass2 rfl rfl ?_; simp only [List.getElem_toArray, List.getElem_cons_succ, List.getElem_cons_zero, Act.put, List.setIfInBounds_toArray, List.set_cons_zero, List.set_cons_succ]) | (refine plan_pass3 rfl rfl ?_; simp only [List.getElem_toArray, List.getElem_cons_succ, List.getElem_cons_zero, Act.put, List.setIfInBounds_toArray, List.set_cons_zero, List.set_cons_succ]) | (refine plan_take (v := ?_) rfl rfl ?_ ?_; rotate_left; (focus (intro w0; go_simp; try with_reducible rfl)); simp only [List.getElem_toArray, List.getElem_cons_succ, List.getElem_cons_zero, Act.put, List.setIfInBounds_toArray, List.set_cons_zero, List.set_cons_succ]) | (refine plan_held (v := ?_) rfl rfl hS ?_ ?_; rotate_left; (focus (intro w0 hSw; (try dsimp only at hSw); go_split_ands; go_simp; try with_reducible rfl)); simp only [List.getElem_toArray, List.getElem_cons_succ, List.getElem_cons_zero, Act.put, List.setIfInBounds_toArray, List.set_cons_zero, List.set_cons_succ])  | (refine plan_skip1 rfl rfl hS ?_; simp only [List.getElem_toArray, List.getElem_cons_succ, List.getElem_cons_zero, Act.put, List.setIfInBounds_toArray, List.set_cons_zero, List.set_cons_succ]))
            refine plan_nil ?_
            clear hS
            have hS6 : wr.drew.drew.cell? ⟨xb, 0, none⟩ = some (.slice (some ⟨g, 0, none⟩) n cp) ∧ wr.drew.drew.cell? ⟨g, j, none⟩ = some (.pointer (some ⟨pbo y.node, 0, none⟩)) ∧ wr.drew.drew.cell? ⟨pbo y.node, 0, none⟩ = some (.int .i64 y.node) ∧ wr.drew.drew.cell? ⟨p, 0, none⟩ = some (.int .i64 X.node) := ⟨HP.out.drew.mod.cell (fun f => f) HCW.out.1, HP.out.drew.mod.cell (fun f => f) HCW.out.2.1, HP.out.drew.mod.cell (fun f => f) HCW.out.2.2.1, HP.out.drew.mod.cell (fun f => f) HCW.out.2.2.2⟩
            go_wp2_with fail
            refine wp_region_plan [] [(0, 0), (1, 0), (2, 0), (3, 1), (4, 0), (5, 0), (6, 1), (7, 0), (8, 0), (9, 1), (10, 0), (11, 0), (12, 0), (13, 1), (14, 0)] (fun w' : World => w'.cell? ⟨xb, 0, none⟩ = some (.slice (some ⟨g, 0, none⟩) n cp) ∧ w'.cell? ⟨g, j, none⟩ = some (.pointer (some ⟨pbo y.node, 0, none⟩)) ∧ w'.cell? ⟨pbo y.node, 0, none⟩ = some (.int .i64 y.node) ∧ w'.cell? ⟨p, 0, none⟩ = some (.int .i64 X.node)) (by kernel_rfl) (by kernel_rfl) (fun d _ _ _ _ h => by cases d <;> exact h) ?_
            repeat (first | (refine plan_skip rfl rfl ?_; simp only [List.getElem_toArray, List.getElem_cons_succ, List.getElem_cons_zero, Act.put, List.setIfInBounds_toArray, List.set_cons_zero, List.set_cons_succ]) | (refine plan_pass2 rfl rfl ?_; simp only [List.getElem_toArray, List.getElem_cons_succ, List.getElem_cons_zero, Act.put, List.setIfInBounds_toArray, List.set_cons_zero, List.set_cons_succ]) | (refine plan_pass3 rfl rfl ?_; simp only [List.getElem_toArray, List.getElem_cons_succ, List.getElem_cons_zero, Act.put, List.setIfInBounds_toArray, List.set_cons_zero, List.set_cons_succ]) | (refine plan_take (v := ?_) rfl rfl ?_ ?_; rotate_left; (focus (intro w0; go_simp; try with_reducible rfl)); simp only [List.getElem_toArray, List.getElem_cons_succ, List.getElem_cons_zero, Act.put, List.setIfInBounds_toArray, List.set_cons_zero, List.set_cons_succ]) | (refine plan_held (v := ?_) rfl rfl hS6 ?_ ?_; rotate_left; (focus (intro w0 hSw; (try dsimp only at hSw); go_split_ands; go_simp; try with_reducible rfl)); simp only [List.getElem_toArray, List.getElem_cons_succ, List.getElem_cons_zero, Act.put, List.setIfInBounds_toArray, List.set_cons_zero, List.set_cons_succ])  | (refine plan_skip1 rfl rfl hS6 ?_; simp only [List.getElem_toArray, List.getElem_cons_succ, List.getElem_cons_zero, Act.put, List.setIfInBounds_toArray, List.set_cons_zero, List.set_cons_succ]))
            try simp only [hd2]
            repeat (first | (refine plan_skip rfl rfl ?_; simp only [List.getElem_toArray, List.getElem_cons_succ, List.getElem_cons_zero, Act.put, List.setIfInBounds_toArray, List.set_cons_zero, List.set_cons_succ]) | (refine plan_pass2 rfl rfl ?_; simp only [List.getElem_toArray, List.getElem_cons_succ, List.getElem_cons_zero, Act.put, List.setIfInBounds_toArray, List.set_cons_zero, List.set_cons_succ]) | (refine plan_pass3 rfl rfl ?_; simp only [List.getElem_toArray, List.getElem_cons_succ, List.getElem_cons_zero, Act.put, List.setIfInBounds_toArray, List.set_cons_zero, List.set_cons_succ]) | (refine plan_take (v := ?_) rfl rfl ?_ ?_; rotate_left; (focus (intro w0; go_simp; try with_reducible rfl)); simp only [List.getElem_toArray, List.getElem_cons_succ, List.getElem_cons_zero, Act.put, List.setIfInBounds_toArray, List.set_cons_zero, List.set_cons_succ]) | (refine plan_held (v := ?_) rfl rfl hS6 ?_ ?_; rotate_left; (focus (intro w0 hSw; (try dsimp only at hSw); go_split_ands; go_simp; try with_reducible rfl)); simp only [List.getElem_toArray, List.getElem_cons_succ, List.getElem_cons_zero, Act.put, List.setIfInBounds_toArray, List.set_cons_zero, List.set_cons_succ])  | (refine plan_skip1 rfl rfl hS6 ?_; simp only [List.getElem_toArray, List.getElem_cons_succ, List.getElem_cons_zero, Act.put, List.setIfInBounds_toArray, List.set_cons_zero, List.set_cons_succ]))
            try simp only [hd2]
            repeat (first | (refine plan_skip rfl rfl ?_; simp only [List.getElem_toArray, List.getElem_cons_succ, List.getElem_cons_zero, Act.put, List.setIfInBounds_toArray, List.set_cons_zero, List.set_cons_succ]) | (refine plan_pass2 rfl rfl ?_; simp only [List.getElem_toArray, List.getElem_cons_succ, List.getElem_cons_zero, Act.put, List.setIfInBounds_toArray, List.set_cons_zero, List.set_cons_succ]) | (refine plan_pass3 rfl rfl ?_; simp only [List.getElem_toArray, List.getElem_cons_succ, List.getElem_cons_zero, Act.put, List.setIfInBounds_toArray, List.set_cons_zero, List.set_cons_succ]) | (refine plan_take (v := ?_) rfl rfl ?_ ?_; rotate_left; (focus (intro w0; go_simp; try with_reducible rfl)); simp only [List.getElem_toArray, List.getElem_cons_succ, List.getElem_cons_zero, Act.put, List.setIfInBounds_toArray, List.set_cons_zero, List.set_cons_succ]) | (refine plan_held (v := ?_) rfl rfl hS6 ?_ ?_; rotate_left; (focus (intro w0 hSw; (try dsimp only at hSw); go_split_ands; go_simp; try with_reducible rfl)); simp only [List.getElem_toArray, List.getElem_cons_succ, List.getElem_cons_zero, Act.put, List.setIfInBounds_toArray, List.set_cons_zero, List.set_cons_succ])  | (refine plan_skip1 rfl rfl hS6 ?_; simp only [List.getElem_toArray, List.getElem_cons_succ, List.getElem_cons_zero, Act.put, List.setIfInBounds_toArray, List.set_cons_zero, List.set_cons_succ]))
            refine plan_nil ?_
            clear hS6
            have hS7 : wr.drew.drew.cell? ⟨xb, 0, none⟩ = some (.slice (some ⟨g, 0, none⟩) n cp) ∧ wr.drew.drew.cell? ⟨g, j, none⟩ = some (.pointer (some ⟨pbo y.node, 0, none⟩)) ∧ wr.drew.drew.cell? ⟨pbo y.node, 0, none⟩ = some (.int .i64 y.node) ∧ wr.drew.drew.cell? ⟨p, 0, none⟩ = some (.int .i64 X.node) := ⟨HP.out.drew.drew.mod.cell (fun f => f) HCW.out.1, HP.out.drew.drew.mod.cell (fun f => f) HCW.out.2.1, HP.out.drew.drew.mod.cell (fun f => f) HCW.out.2.2.1, HP.out.drew.drew.mod.cell (fun f => f) HCW.out.2.2.2⟩
            have kc0 := hS7.1
            have kc1 := hS7.2.1
            clear hS7
            go_wp2_with (at_builtin; go_loud (refine wpList_append_one Tryz.elRL rfl (.tmp 55) (.tmp 63) rfl #[.pointer (some ⟨pbo y.node, 0, none⟩)] _ _ _ _ (HP.out.drew.drew.row.alloc _) _ (allocNew wr.drew.drew _) rfl rfl rfl (by simp [Value.oneCell']) (by omega) (by unfold maxLen; omega) ?_); intro v9 w9 hR9 hm9)
            have P9 := Lib.hid (HP.out.drew.drew.app hR9 hm9 (y := y) HYP.out.symm)
            obtain ⟨a9, c9, rfl, _, _, _⟩ := hR9.form
            clear hR9 hm9
            go_wp2
            go_roundw
            case rel => exact ⟨j + 1, false, _, by omega, rfl, by go_num, ⟨P9.out.row, P9.out.mod, HPO.out, by simp; omega⟩⟩
            case measure => simp [intOf]; omega
        · as_aux_lemma =>
            have HO : Hid (o = l.take j ∧ ∀ z ∈ l.take j, z.node < X.node) := Lib.hid (HIO.out.elim (fun h => h.2) fun h => (by cases h.1))
            have holj : o.length ≤ j := by rw [HO.out.1, List.length_take]; omega
            have hd1 : decide (X.node ≤ y.node) = true := decide_eq_true (by omega)
            have hd2 : (y.node != X.node) = false := by simp; omega
            have hpo := put_skip HH.out.asc HY.out HO.out.2 hyx
            rw [← HO.out.1] at hpo
            have HPO := Lib.hid hpo
            clear hpo
            clear hyx
            go_wp2_with fail
            refine wp_region_plan [] [(0, 0), (1, 0), (2, 0), (3, 0), (4, 0), (5, 0), (6, 1), (7, 0), (8, 0), (9, 1), (10, 0), (11, 0), (12, 1), (13, 0), (14, 0), (15, 0), (16, 1), (17, 0), (18, 0)] (fun w' : World => w'.cell? ⟨xb, 0, none⟩ = some (.slice (some ⟨g, 0, none⟩) n cp) ∧ w'.cell? ⟨g, j, none⟩ = some (.pointer (some ⟨pbo y.node, 0, none⟩)) ∧ w'.cell? ⟨pbo y.node, 0, none⟩ = some (.int .i64 y.node) ∧ w'.cell? ⟨p, 0, none⟩ = some (.int .i64 X.node)) (by kernel_rfl) (by kernel_rfl) (fun d _ _ _ _ h => by cases d <;> exact h) ?_
            repeat (first | (refine plan_skip rfl rfl ?_; simp only [List.getElem_toArray, List.getElem_cons_succ, List.getElem_cons_zero, Act.put, List.setIfInBounds_toArray, List.set_cons_zero, List.set_cons_succ]) | (refine plan_pass2 rfl rfl ?_; simp only [List.getElem_toArray, List.getElem_cons_succ, List.getElem_cons_zero, Act.put, List.setIfInBounds_toArray, List.set_cons_zero, List.set_cons_succ]) | (refine plan_pass3 rfl rfl ?_; simp only [List.getElem_toArray, List.getElem_cons_succ, List.getElem_cons_zero, Act.put, List.setIfInBounds_toArray, List.set_cons_zero, List.set_cons_succ]) | (refine plan_take (v := ?_) rfl rfl ?_ ?_; rotate_left; (focus (intro w0; go_simp; try with_reducible rfl)); simp only [List.getElem_toArray, List.getElem_cons_succ, List.getElem_cons_zero, Act.put, List.setIfInBounds_toArray, List.set_cons_zero, List.set_cons_succ]) | (refine plan_held (v := ?_) rfl rfl hS ?_ ?_; rotate_left; (focus (intro w0 hSw; (try dsimp only at hSw); go_split_ands; go_simp; try with_reducible rfl)); simp only [List.getElem_toArray, List.getElem_cons_succ, List.getElem_cons_zero, Act.put, List.setIfInBounds_toArray, List.set_cons_zero, List.set_cons_succ])  | (refine plan_skip1 rfl rfl hS ?_; simp only [List.getElem_toArray, List.getElem_cons_succ, List.getElem_cons_zero, Act.put, List.setIfInBounds_toArray, List.set_cons_zero, List.set_cons_succ]))
            try simp only [hd1, ge_iff_le, Bool.not_false, Bool.not_true]
            repeat (first | (refine plan_skip rfl rfl ?_; simp only [List.getElem_toArray, List.getElem_cons_succ, List.getElem_cons_zero, Act.put, List.setIfInBounds_toArray, List.set_cons_zero, List.set_cons_succ]) | (refine plan_pass2 rfl rfl ?_; simp only [List.getElem_toArray, List.getElem_cons_succ, List.getElem_cons_zero, Act.put, List.setIfInBounds_toArray, List.set_cons_zero, List.set_cons_succ]) | (refine plan_pass3 rfl rfl ?_; simp only [List.getElem_toArray, List.getElem_cons_succ, List.getElem_cons_zero, Act.put, List.setIfInBounds_toArray, List.set_cons_zero, List.set_cons_succ]) | (refine plan_take (v := ?_) rfl rfl ?_ ?_; rotate_left; (focus (intro w0; go_simp; try with_reducible rfl)); simp only [List.getElem_toArray, List.getElem_cons_succ, List.getElem_cons_zero, Act.put, List.setIfInBounds_toArray, List.set_cons_zero, List.set_cons_succ]) | (refine plan_held (v := ?_) rfl rfl hS ?_ ?_; rotate_left; (focus (intro w0 hSw; (try dsimp only at hSw); go_split_ands; go_simp; try with_reducible rfl)); simp only [List.getElem_toArray, List.getElem_cons_succ, List.getElem_cons_zero, Act.put, List.setIfInBounds_toArray, List.set_cons_zero, List.set_cons_succ])  | (refine plan_skip1 rfl rfl hS ?_; simp only [List.getElem_toArray, List.getElem_cons_succ, List.getElem_cons_zero, Act.put, List.setIfInBounds_toArray, List.set_cons_zero, List.set_cons_succ]))
            try simp only [hd1, ge_iff_le, Bool.not_false, Bool.not_true]
            repeat (first | (refine plan_skip rfl rfl ?_; simp only [List.getElem_toArray, List.getElem_cons_succ, List.getElem_cons_zero, Act.put, List.setIfInBounds_toArray, List.set_cons_zero, List.set_cons_succ]) | (refine plan_pass2 rfl rfl ?_; simp only [List.getElem_toArray, List.getElem_cons_succ, List.getElem_cons_zero, Act.put, List.setIfInBounds_toArray, List.set_cons_zero, List.set_cons_succ]) | (refine plan_pass3 rfl rfl ?_; simp only [List.getElem_toArray, List.getElem_cons_succ, List.getElem_cons_zero, Act.put, List.setIfInBounds_toArray, List.set_cons_zero, List.set_cons_succ]) | (refine plan_take (v := ?_) rfl rfl ?_ ?_; rotate_left; (focus (intro w0; go_simp; try with_reducible rfl)); simp only [List.getElem_toArray, List.getElem_cons_succ, List.getElem_cons_zero, Act.put, List.setIfInBounds_toArray, List.set_cons_zero, List.set_cons_succ]) | (refine plan_held (v := ?_) rfl rfl hS ?_ ?_; rotate_left; (focus (intro w0 hSw; (try dsimp only at hSw); go_split_ands; go_simp; try with_reducible rfl)); simp only [List.getElem_toArray, List.getElem_cons_succ, List.getElem_cons_zero, Act.put, List.setIfInBounds_toArray, List.set_cons_zero, List.set_cons_succ])  | (refine plan_skip1 rfl rfl hS ?_; simp only [List.getElem_toArray, List.getElem_cons_succ, List.getElem_cons_zero, Act.put, List.setIfInBounds_toArray, List.set_cons_zero, List.set_cons_succ]))
            refine plan_nil ?_
            clear hS
            go_wp2_with (at_builtin; go_loud (refine wpList_append_one Tryz.elRL rfl (.tmp 36) (.tmp 38) rfl #[.pointer (some ⟨p, 0, none⟩)] _ _ _ _ (HP.out.drew.row.alloc _) _ (allocNew wr.drew _) rfl rfl rfl (by simp [Value.oneCell']) (by omega) (by unfold maxLen; omega) ?_); intro v5 w5 hR5 hm5)
            have P5 := Lib.hid (HP.out.drew.app hR5 hm5 (y := X) HPX.out.symm)
            obtain ⟨a5, c5, rfl, _, _, _⟩ := hR5.form
            clear hR5 hm5
            have hS6 : w5.drew.cell? ⟨xb, 0, none⟩ = some (.slice (some ⟨g, 0, none⟩) n cp) ∧ w5.drew.cell? ⟨g, j, none⟩ = some (.pointer (some ⟨pbo y.node, 0, none⟩)) ∧ w5.drew.cell? ⟨pbo y.node, 0, none⟩ = some (.int .i64 y.node) ∧ w5.drew.cell? ⟨p, 0, none⟩ = some (.int .i64 X.node) := ⟨P5.out.drew.mod.cell (fun f => f) HCW.out.1, P5.out.drew.mod.cell (fun f => f) HCW.out.2.1, P5.out.drew.mod.cell (fun f => f) HCW.out.2.2.1, P5.out.drew.mod.cell (fun f => f) HCW.out.2.2.2⟩
            go_wp2_with fail
            refine wp_region_plan [] [(0, 0), (1, 0), (2, 0), (3, 1), (4, 0), (5, 0), (6, 1), (7, 0), (8, 0), (9, 1), (10, 0), (11, 0), (12, 0), (13, 1), (14, 0)] (fun w' : World => w'.cell? ⟨xb, 0, none⟩ = some (.slice (some ⟨g, 0, none⟩) n cp) ∧ w'.cell? ⟨g, j, none⟩ = some (.pointer (some ⟨pbo y.node, 0, none⟩)) ∧ w'.cell? ⟨pbo y.node, 0, none⟩ = some (.int .i64 y.node) ∧ w'.cell? ⟨p, 0, none⟩ = some (.int .i64 X.node)) (by kernel_rfl) (by kernel_rfl) (fun d _ _ _ _ h => by cases d <;> exact h) ?_
            repeat (first | (refine plan_skip rfl rfl ?_; simp only [List.getElem_toArray, List.getElem_cons_succ, List.getElem_cons_zero, Act.put, List.setIfInBounds_toArray, List.set_cons_zero, List.set_cons_succ]) | (refine plan_pass2 rfl rfl ?_; simp only [List.getElem_toArray, List.getElem_cons_succ, List.getElem_cons_zero, Act.put, List.setIfInBounds_toArray, List.set_cons_zero, List.set_cons_succ]) | (refine plan_pass3 rfl rfl ?_; simp only [List.getElem_toArray, List.getElem_cons_succ, List.getElem_cons_zero, Act.put, List.setIfInBounds_toArray, List.set_cons_zero, List.set_cons_succ]) | (refine plan_take (v := ?_) rfl rfl ?_ ?_; rotate_left; (focus (intro w0; go_simp; try with_reducible rfl)); simp only [List.getElem_toArray, List.getElem_cons_succ, List.getElem_cons_zero, Act.put, List.setIfInBounds_toArray, List.set_cons_zero, List.set_cons_succ]) | (refine plan_held (v := ?_) rfl rfl hS6 ?_ ?_; rotate_left; (focus (intro w0 hSw; (try dsimp only at hSw); go_split_ands; go_simp; try with_reducible rfl)); simp only [List.getElem_toArray, List.getElem_cons_succ, List.getElem_cons_zero, Act.put, List.setIfInBounds_toArray, List.set_cons_zero, List.set_cons_succ])  | (refine plan_skip1 rfl rfl hS6 ?_; simp only [List.getElem_toArray, List.getElem_cons_succ, List.getElem_cons_zero, Act.put, List.setIfInBounds_toArray, List.set_cons_zero, List.set_cons_succ]))
            try simp only [hd2]
            repeat (first | (refine plan_skip rfl rfl ?_; simp only [List.getElem_toArray, List.getElem_cons_succ, List.getElem_cons_zero, Act.put, List.setIfInBounds_toArray, List.set_cons_zero, List.set_cons_succ]) | (refine plan_pass2 rfl rfl ?_; simp only [List.getElem_toArray, List.getElem_cons_succ, List.getElem_cons_zero, Act.put, List.setIfInBounds_toArray, List.set_cons_zero, List.set_cons_succ]) | (refine plan_pass3 rfl rfl ?_; simp only [List.getElem_toArray, List.getElem_cons_succ, List.getElem_cons_zero, Act.put, List.setIfInBounds_toArray, List.set_cons_zero, List.set_cons_succ]) | (refine plan_take (v := ?_) rfl rfl ?_ ?_; rotate_left; (focus (intro w0; go_simp; try with_reducible rfl)); simp only [List.getElem_toArray, List.getElem_cons_succ, List.getElem_cons_zero, Act.put, List.setIfInBounds_toArray, List.set_cons_zero, List.set_cons_succ]) | (refine plan_held (v := ?_) rfl rfl hS6 ?_ ?_; rotate_left; (focus (intro w0 hSw; (try dsimp only at hSw); go_split_ands; go_simp; try with_reducible rfl)); simp only [List.getElem_toArray, List.getElem_cons_succ, List.getElem_cons_zero, Act.put, List.setIfInBounds_toArray, List.set_cons_zero, List.set_cons_succ])  | (refine plan_skip1 rfl rfl hS6 ?_; simp only [List.getElem_toArray, List.getElem_cons_succ, List.getElem_cons_zero, Act.put, List.setIfInBounds_toArray, List.set_cons_zero, List.set_cons_succ]))
            try simp only [hd2]
            repeat (first | (refine plan_skip rfl rfl ?_; simp only [List.getElem_toArray, List.getElem_cons_succ, List.getElem_cons_zero, Act.put, List.setIfInBounds_toArray, List.set_cons_zero, List.set_cons_succ]) | (refine plan_pass2 rfl rfl ?_; simp only [List.getElem_toArray, List.getElem_cons_succ, List.getElem_cons_zero, Act.put, List.setIfInBounds_toArray, List.set_cons_zero, List.set_cons_succ]) | (refine plan_pass3 rfl rfl ?_; simp only [List.getElem_toArray, List.getElem_cons_succ, List.getElem_cons_zero, Act.put, List.setIfInBounds_toArray, List.set_cons_zero, List.set_cons_succ]) | (refine plan_take (v := ?_) rfl rfl ?_ ?_; rotate_left; (focus (intro w0; go_simp; try with_reducible rfl)); simp only [List.getElem_toArray, List.getElem_cons_succ, List.getElem_cons_zero, Act.put, List.setIfInBounds_toArray, List.set_cons_zero, List.set_cons_succ]) | (refine plan_held (v := ?_) rfl rfl hS6 ?_ ?_; rotate_left; (focus (intro w0 hSw; (try dsimp only at hSw); go_split_ands; go_simp; try with_reducible rfl)); simp only [List.getElem_toArray, List.getElem_cons_succ, List.getElem_cons_zero, Act.put, List.setIfInBounds_toArray, List.set_cons_zero, List.set_cons_succ])  | (refine plan_skip1 rfl rfl hS6 ?_; simp only [List.getElem_toArray, List.getElem_cons_succ, List.getElem_cons_zero, Act.put, List.setIfInBounds_toArray, List.set_cons_zero, List.set_cons_succ]))
            refine plan_nil ?_
            clear hS6
            go_wp2
            go_roundw
            case rel => exact ⟨j + 1, true, _, by omega, rfl, by go_num, ⟨P5.out.drew.row, P5.out.drew.mod, HPO.out, by simp; omega⟩⟩
            case measure => simp [intOf]; omega
        · as_aux_lemma =>
            have HO : Hid (o = l.take j ∧ ∀ z ∈ l.take j, z.node < X.node) := Lib.hid (HIO.out.elim (fun h => h.2) fun h => (by cases h.1))
            have holj : o.length ≤ j := by rw [HO.out.1, List.length_take]; omega
            have hd1 : decide (X.node ≤ y.node) = true := decide_eq_true (by omega)
            have hd2 : (y.node != X.node) = true := by simp; omega
            have hpo := put_both HH.out.asc HY.out HO.out.2 hyx
            rw [← HO.out.1] at hpo
            have HPO := Lib.hid hpo
            clear hpo
            have HYP := Lib.hid (HPY.out y (by omega))
            clear hyx
            go_wp2_with fail
            refine wp_region_plan [] [(0, 0), (1, 0), (2, 0), (3, 0), (4, 0), (5, 0), (6, 1), (7, 0), (8, 0), (9, 1), (10, 0), (11, 0), (12, 1), (13, 0), (14, 0), (15, 0), (16, 1), (17, 0), (18, 0)] (fun w' : World => w'.cell? ⟨xb, 0, none⟩ = some (.slice (some ⟨g, 0, none⟩) n cp) ∧ w'.cell? ⟨g, j, none⟩ = some (.pointer (some ⟨pbo y.node, 0, none⟩)) ∧ w'.cell? ⟨pbo y.node, 0, none⟩ = some (.int .i64 y.node) ∧ w'.cell? ⟨p, 0, none⟩ = some (.int .i64 X.node)) (by kernel_rfl) (by kernel_rfl) (fun d _ _ _ _ h => by cases d <;> exact h) ?_
            repeat (first | (refine plan_skip rfl rfl ?_; simp only [List.getElem_toArray, List.getElem_cons_succ, List.getElem_cons_zero, Act.put, List.setIfInBounds_toArray, List.set_cons_zero, List.set_cons_succ]) | (refine plan_pass2 rfl rfl ?_; simp only [List.getElem_toArray, List.getElem_cons_succ, List.getElem_cons_zero, Act.put, List.setIfInBounds_toArray, List.set_cons_zero, List.set_cons_succ]) | (refine plan_pass3 rfl rfl ?_; simp only [List.getElem_toArray, List.getElem_cons_succ, List.getElem_cons_zero, Act.put, List.setIfInBounds_toArray, List.set_cons_zero, List.set_cons_succ]) | (refine plan_take (v := ?_) rfl rfl ?_ ?_; rotate_left; (focus (intro w0; go_simp; try with_reducible rfl)); simp only [List.getElem_toArray, List.getElem_cons_succ, List.getElem_cons_zero, Act.put, List.setIfInBounds_toArray, List.set_cons_zero, List.set_cons_succ]) | (refine plan_held (v := ?_) rfl rfl hS ?_ ?_; rotate_left; (focus (intro w0 hSw; (try dsimp only at hSw); go_split_ands; go_simp; try with_reducible rfl)); simp only [List.getElem_toArray, List.getElem_cons_succ, List.getElem_cons_zero, Act.put, List.setIfInBounds_toArray, List.set_cons_zero, List.set_cons_succ])  | (refine plan_skip1 rfl rfl hS ?_; simp only [List.getElem_toArray, List.getElem_cons_succ, List.getElem_cons_zero, Act.put, List.setIfInBounds_toArray, List.set_cons_zero, List.set_cons_succ]))
            try simp only [hd1, ge_iff_le, Bool.not_false, Bool.not_true]
            repeat (first | (refine plan_skip rfl rfl ?_; simp only [List.getElem_toArray, List.getElem_cons_succ, List.getElem_cons_zero, Act.put, List.setIfInBounds_toArray, List.set_cons_zero, List.set_cons_succ]) | (refine plan_pass2 rfl rfl ?_; simp only [List.getElem_toArray, List.getElem_cons_succ, List.getElem_cons_zero, Act.put, List.setIfInBounds_toArray, List.set_cons_zero, List.set_cons_succ]) | (refine plan_pass3 rfl rfl ?_; simp only [List.getElem_toArray, List.getElem_cons_succ, List.getElem_cons_zero, Act.put, List.setIfInBounds_toArray, List.set_cons_zero, List.set_cons_succ]) | (refine plan_take (v := ?_) rfl rfl ?_ ?_; rotate_left; (focus (intro w0; go_simp; try with_reducible rfl)); simp only [List.getElem_toArray, List.getElem_cons_succ, List.getElem_cons_zero, Act.put, List.setIfInBounds_toArray, List.set_cons_zero, List.set_cons_succ]) | (refine plan_held (v := ?_) rfl rfl hS ?_ ?_; rotate_left; (focus (intro w0 hSw; (try dsimp only at hSw); go_split_ands; go_simp; try with_reducible rfl)); simp only [List.getElem_toArray, List.getElem_cons_succ, List.getElem_cons_zero, Act.put, List.setIfInBounds_toArray, List.set_cons_zero, List.set_cons_succ])  | (refine plan_skip1 rfl rfl hS ?_; simp only [List.getElem_toArray, List.getElem_cons_succ, List.getElem_cons_zero, Act.put, List.setIfInBounds_toArray, List.set_cons_zero, List.set_cons_succ]))
            try simp only [hd1, ge_iff_le, Bool.not_false, Bool.not_true]
            repeat (first | (refine plan_skip rfl rfl ?_; simp only [List.getElem_toArray, List.getElem_cons_succ, List.getElem_cons_zero, Act.put, List.setIfInBounds_toArray, List.set_cons_zero, List.set_cons_succ]) | (refine plan_pass2 rfl rfl ?_; simp only [List.getElem_toArray, List.getElem_cons_succ, List.getElem_cons_zero, Act.put, List.setIfInBounds_toArray, List.set_cons_zero, List.set_cons_succ]) | (refine plan_pass3 rfl rfl ?_; simp only [List.getElem_toArray, List.getElem_cons_succ, List.getElem_cons_zero, Act.put, List.setIfInBounds_toArray, List.set_cons_zero, List.set_cons_succ]) | (refine plan_take (v := ?_) rfl rfl ?_ ?_; rotate_left; (focus (intro w0; go_simp; try with_reducible rfl)); simp only [List.getElem_toArray, List.getElem_cons_succ, List.getElem_cons_zero, Act.put, List.setIfInBounds_toArray, List.set_cons_zero, List.set_cons_succ]) | (refine plan_held (v := ?_) rfl rfl hS ?_ ?_; rotate_left; (focus (intro w0 hSw; (try dsimp only at hSw); go_split_ands; go_simp; try with_reducible rfl)); simp only [List.getElem_toArray, List.getElem_cons_succ, List.getElem_cons_zero, Act.put, List.setIfInBounds_toArray, List.set_cons_zero, List.set_cons_succ])  | (refine plan_skip1 rfl rfl hS ?_; simp only [List.getElem_toArray, List.getElem_cons_succ, List.getElem_cons_zero, Act.put, List.setIfInBounds_toArray, List.set_cons_zero, List.set_cons_succ]))
            refine plan_nil ?_
            clear hS
            go_wp2_with (at_builtin; go_loud (refine wpList_append_one Tryz.elRL rfl (.tmp 36) (.tmp 38) rfl #[.pointer (some ⟨p, 0, none⟩)] _ _ _ _ (HP.out.drew.row.alloc _) _ (allocNew wr.drew _) rfl rfl rfl (by simp [Value.oneCell']) (by omega) (by unfold maxLen; omega) ?_); intro v5 w5 hR5 hm5)
            have P5 := Lib.hid (HP.out.drew.app hR5 hm5 (y := X) HPX.out.symm)
            obtain ⟨a5, c5, rfl, _, _, _⟩ := hR5.form
            clear hR5 hm5
            have hS6 : w5.drew.cell? ⟨xb, 0, none⟩ = some (.slice (some ⟨g, 0, none⟩) n cp) ∧ w5.drew.cell? ⟨g, j, none⟩ = some (.pointer (some ⟨pbo y.node, 0, none⟩)) ∧ w5.drew.cell? ⟨pbo y.node, 0, none⟩ = some (.int .i64 y.node) ∧ w5.drew.cell? ⟨p, 0, none⟩ = some (.int .i64 X.node) := ⟨P5.out.drew.mod.cell (fun f => f) HCW.out.1, P5.out.drew.mod.cell (fun f => f) HCW.out.2.1, P5.out.drew.mod.cell (fun f => f) HCW.out.2.2.1, P5.out.drew.mod.cell (fun f => f) HCW.out.2.2.2⟩
            go_wp2_with fail
            refine wp_region_plan [] [(0, 0), (1, 0), (2, 0), (3, 1), (4, 0), (5, 0), (6, 1), (7, 0), (8, 0), (9, 1), (10, 0), (11, 0), (12, 0), (13, 1), (14, 0)] (fun w' : World => w'.cell? ⟨xb, 0, none⟩ = some (.slice (some ⟨g, 0, none⟩) n cp) ∧ w'.cell? ⟨g, j, none⟩ = some (.pointer (some ⟨pbo y.node, 0, none⟩)) ∧ w'.cell? ⟨pbo y.node, 0, none⟩ = some (.int .i64 y.node) ∧ w'.cell? ⟨p, 0, none⟩ = some (.int .i64 X.node)) (by kernel_rfl) (by kernel_rfl) (fun d _ _ _ _ h => by cases d <;> exact h) ?_
            repeat (first | (refine plan_skip rfl rfl ?_; simp only [List.getElem_toArray, List.getElem_cons_succ, List.getElem_cons_zero, Act.put, List.setIfInBounds_toArray, List.set_cons_zero, List.set_cons_succ]) | (refine plan_pass2 rfl rfl ?_; simp only [List.getElem_toArray, List.getElem_cons_succ, List.getElem_cons_zero, Act.put, List.setIfInBounds_toArray, List.set_cons_zero, List.set_cons_succ]) | (refine plan_pass3 rfl rfl ?_; simp only [List.getElem_toArray, List.getElem_cons_succ, List.getElem_cons_zero, Act.put, List.setIfInBounds_toArray, List.set_cons_zero, List.set_cons_succ]) | (refine plan_take (v := ?_) rfl rfl ?_ ?_; rotate_left; (focus (intro w0; go_simp; try with_reducible rfl)); simp only [List.getElem_toArray, List.getElem_cons_succ, List.getElem_cons_zero, Act.put, List.setIfInBounds_toArray, List.set_cons_zero, List.set_cons_succ]) | (refine plan_held (v := ?_) rfl rfl hS6 ?_ ?_; rotate_left; (focus (intro w0 hSw; (try dsimp only at hSw); go_split_ands; go_simp; try with_reducible rfl)); simp only [List.getElem_toArray, List.getElem_cons_succ, List.getElem_cons_zero, Act.put, List.setIfInBounds_toArray, List.set_cons_zero, List.set_cons_succ])  | (refine plan_skip1 rfl rfl hS6 ?_; simp only [List.getElem_toArray, List.getElem_cons_succ, List.getElem_cons_zero, Act.put, List.setIfInBounds_toArray, List.set_cons_zero, List.set_cons_succ]))
            try simp only [hd2]
            repeat (first | (refine plan_skip rfl rfl ?_; simp only [List.getElem_toArray, List.getElem_cons_succ, List.getElem_cons_zero, Act.put, List.setIfInBounds_toArray, List.set_cons_zero, List.set_cons_succ]) | (refine plan_pass2 rfl rfl ?_; simp only [List.getElem_toArray, List.getElem_cons_succ, List.getElem_cons_zero, Act.put, List.setIfInBounds_toArray, List.set_cons_zero, List.set_cons_succ]) | (refine plan_pass3 rfl rfl ?_; simp only [List.getElem_toArray, List.getElem_cons_succ, List.getElem_cons_zero, Act.put, List.setIfInBounds_toArray, List.set_cons_zero, List.set_cons_succ]) | (refine plan_take (v := ?_) rfl rfl ?_ ?_; rotate_left; (focus (intro w0; go_simp; try with_reducible rfl)); simp only [List.getElem_toArray, List.getElem_cons_succ, List.getElem_cons_zero, Act.put, List.setIfInBounds_toArray, List.set_cons_zero, List.set_cons_succ]) | (refine plan_held (v := ?_) rfl rfl hS6 ?_ ?_; rotate_left; (focus (intro w0 hSw; (try dsimp only at hSw); go_split_ands; go_simp; try with_reducible rfl)); simp only [List.getElem_toArray, List.getElem_cons_succ, List.getElem_cons_zero, Act.put, List.setIfInBounds_toArray, List.set_cons_zero, List.set_cons_succ])  | (refine plan_skip1 rfl rfl hS6 ?_; simp only [List.getElem_toArray, List.getElem_cons_succ, List.getElem_cons_zero, Act.put, List.setIfInBounds_toArray, List.set_cons_zero, List.set_cons_succ]))
            try simp only [hd2]
            repeat (first | (refine plan_skip rfl rfl ?_; simp only [List.getElem_toArray, List.getElem_cons_succ, List.getElem_cons_zero, Act.put, List.setIfInBounds_toArray, List.set_cons_zero, List.set_cons_succ]) | (refine plan_pass2 rfl rfl ?_; simp only [List.getElem_toArray, List.getElem_cons_succ, List.getElem_cons_zero, Act.put, List.setIfInBounds_toArray, List.set_cons_zero, List.set_cons_succ]) | (refine plan_pass3 rfl rfl ?_; simp only [List.getElem_toArray, List.getElem_cons_succ, List.getElem_cons_zero, Act.put, List.setIfInBounds_toArray, List.set_cons_zero, List.set_cons_succ]) | (refine plan_take (v := ?_) rfl rfl ?_ ?_; rotate_left; (focus (intro w0; go_simp; try with_reducible rfl)); simp only [List.getElem_toArray, List.getElem_cons_succ, List.getElem_cons_zero, Act.put, List.setIfInBounds_toArray, List.set_cons_zero, List.set_cons_succ]) | (refine plan_held (v := ?_) rfl rfl hS6 ?_ ?_; rotate_left; (focus (intro w0 hSw; (try dsimp only at hSw); go_split_ands; go_simp; try with_reducible rfl)); simp only [List.getElem_toArray, List.getElem_cons_succ, List.getElem_cons_zero, Act.put, List.setIfInBounds_toArray, List.set_cons_zero, List.set_cons_succ])  | (refine plan_skip1 rfl rfl hS6 ?_; simp only [List.getElem_toArray, List.getElem_cons_succ, List.getElem_cons_zero, Act.put, List.setIfInBounds_toArray, List.set_cons_zero, List.set_cons_succ]))
            refine plan_nil ?_
            clear hS6
            have hS7 : w5.drew.cell? ⟨xb, 0, none⟩ = some (.slice (some ⟨g, 0, none⟩) n cp) ∧ w5.drew.cell? ⟨g, j, none⟩ = some (.pointer (some ⟨pbo y.node, 0, none⟩)) ∧ w5.drew.cell? ⟨pbo y.node, 0, none⟩ = some (.int .i64 y.node) ∧ w5.drew.cell? ⟨p, 0, none⟩ = some (.int .i64 X.node) := ⟨P5.out.drew.mod.cell (fun f => f) HCW.out.1, P5.out.drew.mod.cell (fun f => f) HCW.out.2.1, P5.out.drew.mod.cell (fun f => f) HCW.out.2.2.1, P5.out.drew.mod.cell (fun f => f) HCW.out.2.2.2⟩
            have kc0 := hS7.1
            have kc1 := hS7.2.1
            clear hS7
            have hol5 : (o ++ [X]).length = o.length + 1 := by simp
            go_wp2_with (at_builtin; go_loud (refine wpList_append_one Tryz.elRL rfl (.tmp 55) (.tmp 63) rfl #[.pointer (some ⟨pbo y.node, 0, none⟩)] _ _ _ _ (P5.out.drew.row.alloc _) _ (allocNew w5.drew _) rfl rfl rfl (by simp [Value.oneCell']) (by rw [hol5]; omega) (by rw [hol5]; unfold maxLen; omega) ?_); intro v9 w9 hR9 hm9)
            have P9 := Lib.hid (P5.out.drew.app hR9 hm9 (y := y) HYP.out.symm)
            obtain ⟨a9, c9, rfl, _, _, _⟩ := hR9.form
            clear hR9 hm9
            go_wp2
            go_roundw
            case rel => exact ⟨j + 1, true, _, by omega, rfl, by go_num, ⟨P9.out.row, P9.out.mod, HPO.out, by simp; omega⟩⟩
            case measure => simp [intOf]; omega
      | true =>
        as_aux_lemma =>
          have HO : Hid (o = hput RLife.node (l.take j) X ∧ ∃ z ∈ l.take j, X.node ≤ z.node) := Lib.hid (HIO.out.elim (fun h => (by cases h.1)) fun h => h.2)
          have hyx : X.node < y.node := by
            obtain ⟨z, hz, hz2⟩ := HO.out.2
            have := put_lt HH.out.asc HY.out z hz
            omega
          have hd2 : (y.node != X.node) = true := by simp; omega
          have hpo := put_more HH.out.asc HY.out hyx HO.out.2
          rw [← HO.out.1] at hpo
          have HPO := Lib.hid hpo
          clear hpo
          have HYP := Lib.hid (HPY.out y (by omega))
          clear hyx
          go_wp2_with fail
          refine wp_region_plan [] [(0, 0), (1, 0), (2, 0), (3, 0), (4, 0), (5, 0), (6, 1), (7, 0), (8, 0), (9, 1), (10, 0), (11, 0), (12, 1), (13, 0), (14, 0), (15, 0), (16, 1), (17, 0), (18, 0)] (fun w' : World => w'.cell? ⟨xb, 0, none⟩ = some (.slice (some ⟨g, 0, none⟩) n cp) ∧ w'.cell? ⟨g, j, none⟩ = some (.pointer (some ⟨pbo y.node, 0, none⟩)) ∧ w'.cell? ⟨pbo y.node, 0, none⟩ = some (.int .i64 y.node) ∧ w'.cell? ⟨p, 0, none⟩ = some (.int .i64 X.node)) (by kernel_rfl) (by kernel_rfl) (fun d _ _ _ _ h => by cases d <;> exact h) ?_
          repeat (first | (refine plan_skip rfl rfl ?_; simp only [List.getElem_toArray, List.getElem_cons_succ, List.getElem_cons_zero, Act.put, List.setIfInBounds_toArray, List.set_cons_zero, List.set_cons_succ]) | (refine plan_pass2 rfl rfl ?_; simp only [List.getElem_toArray, List.getElem_cons_succ, List.getElem_cons_zero, Act.put, List.setIfInBounds_toArray, List.set_cons_zero, List.set_cons_succ]) | (refine plan_pass3 rfl rfl ?_; simp only [List.getElem_toArray, List.getElem_cons_succ, List.getElem_cons_zero, Act.put, List.setIfInBounds_toArray, List.set_cons_zero, List.set_cons_succ]) | (refine plan_take (v := ?_) rfl rfl ?_ ?_; rotate_left; (focus (intro w0; go_simp; try with_reducible rfl)); simp only [List.getElem_toArray, List.getElem_cons_succ, List.getElem_cons_zero, Act.put, List.setIfInBounds_toArray, List.set_cons_zero, List.set_cons_succ]) | (refine plan_held (v := ?_) rfl rfl hS ?_ ?_; rotate_left; (focus (intro w0 hSw; (try dsimp only at hSw); go_split_ands; go_simp; try with_reducible rfl)); simp only [List.getElem_toArray, List.getElem_cons_succ, List.getElem_cons_zero, Act.put, List.setIfInBounds_toArray, List.set_cons_zero, List.set_cons_succ])  | (refine plan_skip1 rfl rfl hS ?_; simp only [List.getElem_toArray, List.getElem_cons_succ, List.getElem_cons_zero, Act.put, List.setIfInBounds_toArray, List.set_cons_zero, List.set_cons_succ]))
          try simp only [Bool.not_true]
          repeat (first | (refine plan_skip rfl rfl ?_; simp only [List.getElem_toArray, List.getElem_cons_succ, List.getElem_cons_zero, Act.put, List.setIfInBounds_toArray, List.set_cons_zero, List.set_cons_succ]) | (refine plan_pass2 rfl rfl ?_; simp only [List.getElem_toArray, List.getElem_cons_succ, List.getElem_cons_zero, Act.put, List.setIfInBounds_toArray, List.set_cons_zero, List.set_cons_succ]) | (refine plan_pass3 rfl rfl ?_; simp only [List.getElem_toArray, List.getElem_cons_succ, List.getElem_cons_zero, Act.put, List.setIfInBounds_toArray, List.set_cons_zero, List.set_cons_succ]) | (refine plan_take (v := ?_) rfl rfl ?_ ?_; rotate_left; (focus (intro w0; go_simp; try with_reducible rfl)); simp only [List.getElem_toArray, List.getElem_cons_succ, List.getElem_cons_zero, Act.put, List.setIfInBounds_toArray, List.set_cons_zero, List.set_cons_succ]) | (refine plan_held (v := ?_) rfl rfl hS ?_ ?_; rotate_left; (focus (intro w0 hSw; (try dsimp only at hSw); go_split_ands; go_simp; try with_reducible rfl)); simp only [List.getElem_toArray, List.getElem_cons_succ, List.getElem_cons_zero, Act.put, List.setIfInBounds_toArray, List.set_cons_zero, List.set_cons_succ])  | (refine plan_skip1 rfl rfl hS ?_; simp only [List.getElem_toArray, List.getElem_cons_succ, List.getElem_cons_zero, Act.put, List.setIfInBounds_toArray, List.set_cons_zero, List.set_cons_succ]))
          try simp only [Bool.not_true]
          repeat (first | (refine plan_skip rfl rfl ?_; simp only [List.getElem_toArray, List.getElem_cons_succ, List.getElem_cons_zero, Act.put, List.setIfInBounds_toArray, List.set_cons_zero, List.set_cons_succ]) | (refine plan_pass2 rfl rfl ?_; simp only [List.getElem_toArray, List.getElem_cons_succ, List.getElem_cons_zero, Act.put, List.setIfInBounds_toArray, List.set_cons_zero, List.set_cons_succ]) | (refine plan_pass3 rfl rfl ?_; simp only [List.getElem_toArray, List.getElem_cons_succ, List.getElem_cons_zero, Act.put, List.setIfInBounds_toArray, List.set_cons_zero, List.set_cons_succ]) | (refine plan_take (v := ?_) rfl rfl ?_ ?_; rotate_left; (focus (intro w0; go_simp; try with_reducible rfl)); simp only [List.getElem_toArray, List.getElem_cons_succ, List.getElem_cons_zero, Act.put, List.setIfInBounds_toArray, List.set_cons_zero, List.set_cons_succ]) | (refine plan_held (v := ?_) rfl rfl hS ?_ ?_; rotate_left; (focus (intro w0 hSw; (try dsimp only at hSw); go_split_ands; go_simp; try with_reducible rfl)); simp only [List.getElem_toArray, List.getElem_cons_succ, List.getElem_cons_zero, Act.put, List.setIfInBounds_toArray, List.set_cons_zero, List.set_cons_succ])  | (refine plan_skip1 rfl rfl hS ?_; simp only [List.getElem_toArray, List.getElem_cons_succ, List.getElem_cons_zero, Act.put, List.setIfInBounds_toArray, List.set_cons_zero, List.set_cons_succ]))
          refine plan_nil ?_
          clear hS
          have hS6 : wr.drew.drew.cell? ⟨xb, 0, none⟩ = some (.slice (some ⟨g, 0, none⟩) n cp) ∧ wr.drew.drew.cell? ⟨g, j, none⟩ = some (.pointer (some ⟨pbo y.node, 0, none⟩)) ∧ wr.drew.drew.cell? ⟨pbo y.node, 0, none⟩ = some (.int .i64 y.node) ∧ wr.drew.drew.cell? ⟨p, 0, none⟩ = some (.int .i64 X.node) := ⟨HP.out.drew.mod.cell (fun f => f) HCW.out.1, HP.out.drew.mod.cell (fun f => f) HCW.out.2.1, HP.out.drew.mod.cell (fun f => f) HCW.out.2.2.1, HP.out.drew.mod.cell (fun f => f) HCW.out.2.2.2⟩
          go_wp2_with fail
          refine wp_region_plan [] [(0, 0), (1, 0), (2, 0), (3, 1), (4, 0), (5, 0), (6, 1), (7, 0), (8, 0), (9, 1), (10, 0), (11, 0), (12, 0), (13, 1), (14, 0)] (fun w' : World => w'.cell? ⟨xb, 0, none⟩ = some (.slice (some ⟨g, 0, none⟩) n cp) ∧ w'.cell? ⟨g, j, none⟩ = some (.pointer (some ⟨pbo y.node, 0, none⟩)) ∧ w'.cell? ⟨pbo y.node, 0, none⟩ = some (.int .i64 y.node) ∧ w'.cell? ⟨p, 0, none⟩ = some (.int .i64 X.node)) (by kernel_rfl) (by kernel_rfl) (fun d _ _ _ _ h => by cases d <;> exact h) ?_
          repeat (first | (refine plan_skip rfl rfl ?_; simp only [List.getElem_toArray, List.getElem_cons_succ, List.getElem_cons_zero, Act.put, List.setIfInBounds_toArray, List.set_cons_zero, List.set_cons_succ]) | (refine plan_pass2 rfl rfl ?_; simp only [List.getElem_toArray, List.getElem_cons_succ, List.getElem_cons_zero, Act.put, List.setIfInBounds_toArray, List.set_cons_zero, List.set_cons_succ]) | (refine plan_pass3 rfl rfl ?_; simp only [List.getElem_toArray, List.getElem_cons_succ, List.getElem_cons_zero, Act.put, List.setIfInBounds_toArray, List.set_cons_zero, List.set_cons_succ]) | (refine plan_take (v := ?_) rfl rfl ?_ ?_; rotate_left; (focus (intro w0; go_simp; try with_reducible rfl)); simp only [List.getElem_toArray, List.getElem_cons_succ, List.getElem_cons_zero, Act.put, List.setIfInBounds_toArray, List.set_cons_zero, List.set_cons_succ]) | (refine plan_held (v := ?_) rfl rfl hS6 ?_ ?_; rotate_left; (focus (intro w0 hSw; (try dsimp only at hSw); go_split_ands; go_simp; try with_reducible rfl)); simp only [List.getElem_toArray, List.getElem_cons_succ, List.getElem_cons_zero, Act.put, List.setIfInBounds_toArray, List.set_cons_zero, List.set_cons_succ])  | (refine plan_skip1 rfl rfl hS6 ?_; simp only [List.getElem_toArray, List.getElem_cons_succ, List.getElem_cons_zero, Act.put, List.setIfInBounds_toArray, List.set_cons_zero, List.set_cons_succ]))
          try simp only [hd2]
          repeat (first | (refine plan_skip rfl rfl ?_; simp only [List.getElem_toArray, List.getElem_cons_succ, List.getElem_cons_zero, Act.put, List.setIfInBounds_toArray, List.set_cons_zero, List.set_cons_succ]) | (refine plan_pass2 rfl rfl ?_; simp only [List.getElem_toArray, List.getElem_cons_succ, List.getElem_cons_zero, Act.put, List.setIfInBounds_toArray, List.set_cons_zero, List.set_cons_succ]) | (refine plan_pass3 rfl rfl ?_; simp only [List.getElem_toArray, List.getElem_cons_succ, List.getElem_cons_zero, Act.put, List.setIfInBounds_toArray, List.set_cons_zero, List.set_cons_succ]) | (refine plan_take (v := ?_) rfl rfl ?_ ?_; rotate_left; (focus (intro w0; go_simp; try with_reducible rfl)); simp only [List.getElem_toArray, List.getElem_cons_succ, List.getElem_cons_zero, Act.put, List.setIfInBounds_toArray, List.set_cons_zero, List.set_cons_succ]) | (refine plan_held (v := ?_) rfl rfl hS6 ?_ ?_; rotate_left; (focus (intro w0 hSw; (try dsimp only at hSw); go_split_ands; go_simp; try with_reducible rfl)); simp only [List.getElem_toArray, List.getElem_cons_succ, List.getElem_cons_zero, Act.put, List.setIfInBounds_toArray, List.set_cons_zero, List.set_cons_succ])  | (refine plan_skip1 rfl rfl hS6 ?_; simp only [List.getElem_toArray, List.getElem_cons_succ, List.getElem_cons_zero, Act.put, List.setIfInBounds_toArray, List.set_cons_zero, List.set_cons_succ]))
          try simp only [hd2]
          repeat (first | (refine plan_skip rfl rfl ?_; simp only [List.getElem_toArray, List.getElem_cons_succ, List.getElem_cons_zero, Act.put, List.setIfInBounds_toArray, List.set_cons_zero, List.set_cons_succ]) | (refine plan_pass2 rfl rfl ?_; simp only [List.getElem_toArray, List.getElem_cons_succ, List.getElem_cons_zero, Act.put, List.setIfInBounds_toArray, List.set_cons_zero, List.set_cons_succ]) | (refine plan_pass3 rfl rfl ?_; simp only [List.getElem_toArray, List.getElem_cons_succ, List.getElem_cons_zero, Act.put, List.setIfInBounds_toArray, List.set_cons_zero, List.set_cons_succ]) | (refine plan_take (v := ?_) rfl rfl ?_ ?_; rotate_left; (focus (intro w0; go_simp; try with_reducible rfl)); simp only [List.getElem_toArray, List.getElem_cons_succ, List.getElem_cons_zero, Act.put, List.setIfInBounds_toArray, List.set_cons_zero, List.set_cons_succ]) | (refine plan_held (v := ?_) rfl rfl hS6 ?_ ?_; rotate_left; (focus (intro w0 hSw; (try dsimp only at hSw); go_split_ands; go_simp; try with_reducible rfl)); simp only [List.getElem_toArray, List.getElem_cons_succ, List.getElem_cons_zero, Act.put, List.setIfInBounds_toArray, List.set_cons_zero, List.set_cons_succ])  | (refine plan_skip1 rfl rfl hS6 ?_; simp only [List.getElem_toArray, List.getElem_cons_succ, List.getElem_cons_zero, Act.put, List.setIfInBounds_toArray, List.set_cons_zero, List.set_cons_succ]))
          refine plan_nil ?_
          clear hS6
          have hS7 : wr.drew.drew.cell? ⟨xb, 0, none⟩ = some (.slice (some ⟨g, 0, none⟩) n cp) ∧ wr.drew.drew.cell? ⟨g, j, none⟩ = some (.pointer (some ⟨pbo y.node, 0, none⟩)) ∧ wr.drew.drew.cell? ⟨pbo y.node, 0, none⟩ = some (.int .i64 y.node) ∧ wr.drew.drew.cell? ⟨p, 0, none⟩ = some (.int .i64 X.node) := ⟨HP.out.drew.drew.mod.cell (fun f => f) HCW.out.1, HP.out.drew.drew.mod.cell (fun f => f) HCW.out.2.1, HP.out.drew.drew.mod.cell (fun f => f) HCW.out.2.2.1, HP.out.drew.drew.mod.cell (fun f => f) HCW.out.2.2.2⟩
          have kc0 := hS7.1
          have kc1 := hS7.2.1
          clear hS7
          go_wp2_with (at_builtin; go_loud (refine wpList_append_one Tryz.elRL rfl (.tmp 55) (.tmp 63) rfl #[.pointer (some ⟨pbo y.node, 0, none⟩)] _ _ _ _ (HP.out.drew.drew.row.alloc _) _ (allocNew wr.drew.drew _) rfl rfl rfl (by simp [Value.oneCell']) (by omega) (by unfold maxLen; omega) ?_); intro v9 w9 hR9 hm9)
          have P9 := Lib.hid (HP.out.drew.drew.app hR9 hm9 (y := y) HYP.out.symm)
          obtain ⟨a9, c9, rfl, _, _, _⟩ := hR9.form
          clear hR9 hm9
          go_wp2
          go_roundw
          case rel => exact ⟨j + 1, true, _, by omega, rfl, by go_num, ⟨P9.out.row, P9.out.mod, HPO.out, by simp; omega⟩⟩
          case measure => simp [intOf]; omega
    · have hki : ¬ (j : Int) < (n : Int) := by omega
      obtain rfl : j = n := by omega
      have HP : Hid (PutR pb w wr (.slice oa o.length oc) o) := Lib.hid ⟨HI.out.row, HI.out.mod⟩
      have HIO := Lib.hid HI.out.o
      have e1 : l.take j = l := by rw [HL.out]; exact List.take_length
      have FIN : Hid (∀ (wz : World) (v : Value) (out : List RLife), PutR pb w wz v out → out = hput RLife.node l X → ∀ wf, Blk wf xb 29 [v, gv] → Mod (fun k => k = xb) wz wf → XIn wf xb (hput RLife.node l X) gs v gv pb (dyed c w (.inr 1)) ∧ Mod (fun k => c k = .inr 0) w wf) := Lib.hid fun wz v out hp ho wf hbf hmf => by
        have hM : Mod (fun k => c k = .inr 0) w wf := (hp.mod.mono (G := fun k => c k = .inr 0) fun _ f => f.elim).trans hmf fun k hk => .inl (by rw [hk]; exact HH.out.f0)
        have hxl := HH.out.top.lt
        have hfam : Fam RLifeAt RLife.node wf (dyed c w (.inr 1)) pb (hput RLife.node l X) := by rw [HPB.out]; exact (HH.out.fam.put0 HX.out).grow rlifeKept hM (fun k m e e2 => by rw [e] at e2; cases e2) _
        have hrow : Row wf (fun k => dyed c w (.inr 1) k = .inr 1) 46 1 v (hput RLife.node l X).length (ptrsC pb (hput RLife.node l X)) := by
          rw [← ho]
          exact (hp.row.keep hmf fun k hk e => by have : w.heap.size ≤ k := hk; omega).mono fun k hk => dyed_new hk
        exact ⟨⟨hbf, hrow, HH.out.rowg.dyeKeep hM (fun k e e2 => by rw [e] at e2; cases e2) _, hfam, asc_hput HH.out.asc X, by rw [dyed_old hxl]; exact HH.out.f0, HH.out.ge⟩, hM⟩
      have hblk := HH.out.top.keep HI.out.mod fun f => f
      have HBK := Lib.hid hblk

      clear HI hblk
      cases done with
      | false =>
        have HO : Hid (o = l ∧ hput RLife.node l X = l ++ [X]) := Lib.hid (HIO.out.elim (fun h => by rw [e1] at h; exact ⟨h.2.1, hput_far h.2.2⟩) fun h => (by cases h.1))
        clear e1
        have hsz := slSz
        go_wp2_with (first
          | (at_builtin; go_loud (refine wpList_append_one Tryz.elRL rfl (.tmp 67) (.tmp 69) rfl #[.pointer (some ⟨p, 0, none⟩)] _ _ _ _ (HP.out.row.alloc _) _ (allocNew wr _) rfl rfl rfl (by simp [Value.oneCell']) (by omega) (by unfold maxLen; omega) ?_); intro v4 w4 hR4 hm4; obtain ⟨a4, c4, rfl, _, _, _⟩ := hR4.form; have P4 := Lib.hid (HP.out.app hR4 hm4 (y := X) HPX.out.symm); have HB4 := Lib.hid (HH.out.top.keep P4.out.mod fun f => f); clear hR4 hm4)
          | (refine wpList_store_blk1 rfl _ _ _ rfl xb 0 29 [lv, gv] (.slice a4 (o.length + 1) c4) rfl rfl HB4.out (by simp) slSz rfl ?_; intro w5 HB5 HM5))
        go_end0
        obtain ⟨h1, h2⟩ := FIN.out _ _ _ P4.out (by rw [HO.out.2, HO.out.1]) w5 HB5.out HM5.out
        rw [HPB.out] at h1
        first | exact ⟨rfl, _, h1, h2⟩ | exact ⟨rfl, ⟨_, h1⟩, h2⟩
      | true =>
        have HO : Hid (o = hput RLife.node l X) := Lib.hid (HIO.out.elim (fun h => (by cases h.1)) fun h => by rw [e1] at h; exact h.2.1)
        clear e1
        go_wp2_with (refine wpList_store_blk1 rfl _ _ _ rfl xb 0 29 [lv, gv] (.slice oa o.length oc) rfl rfl HBK.out (by simp) slSz rfl ?_; intro w5 HB5 HM5)
        go_end0
        obtain ⟨h1, h2⟩ := FIN.out _ _ _ HP.out HO.out w5 HB5.out HM5.out
        rw [HPB.out] at h1
        first | exact ⟨rfl, _, h1, h2⟩ | exact ⟨rfl, ⟨_, h1⟩, h2⟩
end Go.Proofs.YtidkapanpieflaaGreat
